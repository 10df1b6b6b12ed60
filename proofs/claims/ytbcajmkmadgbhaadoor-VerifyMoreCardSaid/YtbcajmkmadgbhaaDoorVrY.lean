/- The statement VerifyMore. Conditions: code.table, the two tables of unicode/utf8 and errors.errorType hold what the program's text lays in them. -/
import Derived.Test.YtbcajmkmadgbhaaDoorVrU
import Derived.Test.YtbcajmkmadgbhaaDoorVrW
import Derived.Test.YtbcajmkmadgbhaaDoorVrX
set_option linter.unusedSimpArgs false
set_option linter.unusedVariables false
namespace Go.Proofs.YtbcajmkmadgbhaaDoor
open Go.RowKit
section
variable {α : Type} {enc : α → List Value}
theorem RowL.turned {k Q : Nat} {w w' : World} {A : Option Addr} {l : List α} (h : RowL k enc w A l) (ht : Turned [Q] w w') (hne : ∀ b off, A = some ⟨b, off, none⟩ → b ≠ Q) : RowL k enc w' A l where
  row := fun hn => by
    obtain ⟨b, off, e, hr⟩ := h.row hn
    exact ⟨b, off, e, fun i x hx j v hj => ht.cell (hr i x hx j v hj) (by simpa using hne b off e)⟩
  n := h.n
/-- a row that was made behind Q -/
structure Made (w : World) (Q k : Nat) (enc : α → List Value) (A : Option Addr) (l : List α) : Prop where
  row : RowL k enc w A l
  new : ∀ b off, A = some ⟨b, off, none⟩ → Q < b
theorem Made.turned {k Q : Nat} {w w' : World} {A : Option Addr} {l : List α} (h : Made w Q k enc A l) (ht : Turned [Q] w w') : Made w' Q k enc A l :=
  ⟨h.row.turned ht (fun b off e => by have := h.new b off e; omega), h.new⟩
theorem made_set {k Q i : Nat} {u : Value} {w : World} {A : Option Addr} {l : List α} (h : RowL k enc w A l) (hn : ∀ b off, A = some ⟨b, off, none⟩ → Q < b) : Made (w.setCell ⟨Q, i, none⟩ u) Q k enc A l :=
  (Made.mk h hn).turned (Turned.set _ _ _)
theorem lit_one {k : Nat} {w : World} {b : Nat} {cs : Array Value} {T : TypeId} {x : α} (h : w.heap[b]? = some (.cells cs T (0, 0))) (hc : ∀ (j : Nat) (v : Value), (enc x)[j]? = some v → cs[j]? = some v) : RowL k enc w (some ⟨b, 0, none⟩) [x] :=
  row_of_cb h (fun i y hy j v hj => by
    match i, hy with
    | 0, hy =>
      simp at hy
      subst hy
      rw [Nat.zero_mul, Nat.zero_add]
      exact hc j v hj
    | i + 1, hy => simp at hy) (by simp)
end
theorem below_app {w w1 : World} {T : TypeId} {n c : Nat} (hg : (w.alloc (.cells #[] T)).grownBy w1 (Value.slice (some ⟨w.heap.size, 0, none⟩) n c).ownBlock) : Below w.heap.size w w1 := by
  refine belowOwn (below1 _ _) hg (fun g e => ?_) (below1 _ _).size
  have e1 : w.heap.size = g := by simpa [Value.ownBlock] using e
  omega
theorem one_i : ∀ z : Int, ∀ u ∈ [Value.int .i64 z], u.oneCell' = true := fun z u hu => by
  simp only [List.mem_cons, List.not_mem_nil, or_false] at hu
  subst hu; rfl
theorem one_s : ∀ s : List UInt8, ∀ u ∈ [strV s], u.oneCell' = true := fun z u hu => by
  simp only [List.mem_cons, List.not_mem_nil, or_false] at hu
  subst hu; rfl
theorem one_a : ∀ a : Nat × List UInt8, ∀ u ∈ [Value.int .u8 (a.1 : Int), strV a.2], u.oneCell' = true := fun z u hu => by
  simp only [List.mem_cons, List.not_mem_nil, or_false] at hu
  rcases hu with rfl | rfl <;> rfl
/-- how long a program's lists may be -/
structure LenB (D : PrgD) : Prop where
  times : D.times.length * 8 ≤ 140737488355328
  ints : D.ints.length * 8 ≤ 140737488355328
  accs : D.accs.length * 24 ≤ 140737488355328
  texts : D.texts.length * 16 ≤ 140737488355328
  names : D.names.length * 16 ≤ 140737488355328
/-- what VerifyMore knows: the program's box, the other one's -/
structure MoB (w wr : World) (S Q : Nat) (D : PrgD) (L : PLoc) (cs : Array Value) : Prop where
  box : PBox wr S D L
  q : CB wr Q cs
  below : Below S w wr
  eq : w.heap.size = S
  m0 : PrgM w D L
  g0 : GlobK w
  t0 : TabU w
  sq : S < Q
section
variable {w wr : World} {S Q : Nat} {D : PrgD} {L : PLoc} {cs : Array Value}
theorem MoB.mem (h : MoB w wr S Q D L cs) : PrgM wr D L := h.m0.below (by rw [h.eq]; exact h.below)
theorem MoB.glob (h : MoB w wr S Q D L cs) : GlobK wr := h.g0.below (by rw [h.eq]; exact h.below)
theorem MoB.tab (h : MoB w wr S Q D L cs) : TabU wr := h.t0.below (by rw [h.eq]; exact h.below)
theorem MoB.qlt (h : MoB w wr S Q D L cs) : Q < wr.heap.size := h.q.lt
theorem MoB.step {w' : World} (h : MoB w wr S Q D L cs) (hb : Below wr.heap.size wr w') : MoB w w' S Q D L cs :=
  ⟨h.box.below hb, h.q.below hb, h.below.trans (hb.mono (Nat.le_of_lt h.box.lt)), h.eq, h.m0, h.g0, h.t0, h.sq⟩
theorem MoB.qfree {w' : World} (h : MoB w wr S Q D L cs) (hb : Below wr.heap.size wr w') (i : Nat) : w'.frozen? ⟨Q, i, none⟩ = false := by
  obtain ⟨T, h0⟩ := h.q.below hb
  exact cells_free h0 i
theorem MoB.qcell {w' : World} (h : MoB w wr S Q D L cs) (hb : Below wr.heap.size wr w') (i : Nat) (v : Value) (hv : cs[i]? = some v) : w'.cell? ⟨Q, i, none⟩ = some v := (h.q.below hb).at i v hv
theorem MoB.next {w' : World} (h : MoB w wr S Q D L cs) (hb : Below wr.heap.size wr w') (i : Nat) (u : Value) : MoB w (w'.setCell ⟨Q, i, none⟩ u) S Q D L (cs.setIfInBounds i u) := by
  have h1 := h.step hb
  refine ⟨?_, ?_, h1.below.setCell (Nat.le_of_lt h.sq) _, h.eq, h.m0, h.g0, h.t0, h.sq⟩
  · obtain ⟨T, h0⟩ := h1.box.blk
    exact ⟨T, by rw [Below.heap_setCell _ _ _ _ (by have := h.sq; show S ≠ Q; omega)]; exact h0⟩
  · obtain ⟨T, h0⟩ := h1.q
    exact ⟨T, cells_set h0 i u⟩
theorem MoB.pbox {D' : PrgD} {L' : PLoc} (h : MoB w wr S Q D L cs) (he : cs = prgC D' L') : PBox wr Q D' L' := by
  obtain ⟨T, h0⟩ := h.q
  exact ⟨T, by rw [← he]; exact h0⟩
end
theorem name_bound {name : List UInt8} (h : name.length ≤ 9223372036854775807) : PrgB (nameD name) where
  from_ := by simp [nameD]
  into := by simp [nameD]
  every := by simp [nameD, i64B]
  offset := by simp [nameD, i64B]
  groups := fun s h => by cases h
  accs := fun a ha => by cases ha
  aliases := fun s h => by have := List.mem_singleton.1 h; subst this; decide
  names := fun s hs => by have := List.mem_singleton.1 hs; subst this; exact h
  texts := fun s h => by cases h
  lists := fun s h => by cases h
  filter := bound0.filter
  output := fun i h => by
    simp only [nameD, List.mem_cons, List.not_mem_nil, or_false] at h
    rcases h with rfl | rfl | rfl <;> exact ⟨by decide, by unfold i64B; decide, by unfold i64B; decide⟩
theorem more_bound {D : PrgD} {n : Int} {nm : List (List UInt8)} (h : PrgB D) (hn : TxtsB nm) : PrgB (moreD D n nm) where
  from_ := h.from_
  into := h.into
  every := h.every
  offset := h.offset
  groups := h.groups
  accs := fun a ha => by
    rcases List.mem_append.1 ha with h1 | h1
    · exact h.accs a h1
    · simp at h1; subst h1; exact ⟨by decide, by decide⟩
  aliases := h.aliases
  names := fun s hs => by
    rcases List.mem_append.1 hs with h1 | h1
    · exact h.names s h1
    · exact hn s h1
  texts := fun s hs => by
    rcases List.mem_append.1 hs with h1 | h1
    · exact h.texts s h1
    · simp at h1; subst h1; simp
  lists := h.lists
  filter := h.filter
  output := h.output
set_option maxHeartbeats 16000000 in
set_option maxRecDepth 100000 in
theorem more_law (D : PrgD) (L : PLoc) (name : List UInt8) (n : Int) (w : World) (hM : PrgM w D L) (hB : PrgB D) (hG : GlobK w) (hT : TabU w) (hL : LenB D) (hname : name.length ≤ 9223372036854775807) :
    Calls Tryd.prog 4 #[prgV D L, strV name, .int .i64 n] w fun e w' => e = .returned (.bool true) ∧ Below w.heap.size w w' := by
  obtain ⟨i0, hi, hiz, hi1, hi2⟩ := info_parts (show (Tryd.prog.info? 2).map (fun i => (i.zero, i.size, i.bytes)) = some (some (.int .i64 0), 1, 8) by kernel_rfl)
  have HI0 : Bx (Tryd.prog.info? 2 = some i0 ∧ i0.zero = some (.int .i64 0) ∧ i0.size = 1 ∧ i0.bytes = 8) := ⟨hi, hiz, hi1, hi2⟩
  clear hi hiz hi1 hi2
  obtain ⟨i1, hi, hiz, hi1, hi2⟩ := info_parts (show (Tryd.prog.info? 41).map (fun i => (i.zero, i.size, i.bytes)) = some (some (.agg #[.int .u8 0, .string ⟨#[]⟩]), 2, 24) by kernel_rfl)
  have HI1 : Bx (Tryd.prog.info? 41 = some i1 ∧ i1.zero = some (.agg #[.int .u8 0, .string ⟨#[]⟩]) ∧ i1.size = 2 ∧ i1.bytes = 24) := ⟨hi, hiz, hi1, hi2⟩
  clear hi hiz hi1 hi2
  obtain ⟨i2, hi, hiz, hi1, hi2⟩ := info_parts (show (Tryd.prog.info? 9).map (fun i => (i.zero, i.size, i.bytes)) = some (some (.string ⟨#[]⟩), 1, 16) by kernel_rfl)
  have HI2 : Bx (Tryd.prog.info? 9 = some i2 ∧ i2.zero = some (.string ⟨#[]⟩) ∧ i2.size = 1 ∧ i2.bytes = 16) := ⟨hi, hiz, hi1, hi2⟩
  clear hi hiz hi1 hi2
  have H0 : Bx _ := ⟨HdB.alloc w D L 28 hM hG⟩
  have HB : Bx _ := ⟨hB⟩
  have HT0 : Bx _ := ⟨hT⟩
  have HLEN : Bx _ := ⟨hL⟩
  have HNM : Bx _ := ⟨hname⟩
  clear hM hG hB hT hL hname
  go_enter Tryd.func4, Tryd.ntmps4
  go_upto_region 1 with (fail)
  generalize (w.alloc (.cells (prgC D L) 28)) = w0 at *
  generalize hS : w.heap.size = S at *
  have HZ : Bx (w.heap.size = S) := ⟨hS⟩
  clear hS
  have p0 := H0.out.box.cell 0 _ rfl
  have p1 := H0.out.box.cell 1 _ rfl
  have p2 := H0.out.box.cell 2 _ rfl
  have p3 := H0.out.box.cell 3 _ rfl
  have p4 := H0.out.box.cell 4 _ rfl
  have p5 := H0.out.box.cell 5 _ rfl
  have p6 := H0.out.box.cell 6 _ rfl
  have p7 := H0.out.box.cell 7 _ rfl
  have p8 := H0.out.box.cell 8 _ rfl
  have p9 := H0.out.box.cell 9 _ rfl
  have p10 := H0.out.box.cell 10 _ rfl
  have p11 := H0.out.box.cell 11 _ rfl
  have p12 := H0.out.box.cell 12 _ rfl
  have p13 := H0.out.box.cell 13 _ rfl
  have kp := program_any D L w0 H0.out.mem HB.out H0.out.glob (HT0.out.below (by rw [HZ.out]; exact H0.out.below))
  cases hv : verF D with
  | some x =>
    obtain ⟨c, o⟩ := x
    obtain ⟨T, u, hu⟩ := verV_some (o := o) (verF_pos hv)
    rw [hv, hu] at kp
    clear hv hu
    go_wp2_with fail
    refine kp.mono ?_
    rintro e w1 ⟨rfl, hb⟩
    have H1 : Bx _ := ⟨H0.out.step hb⟩
    clear hb kp p0 p1 p2 p3 p4 p5 p6 p7 p8 p9 p10 p11 p12 p13
    go_wp2_with fail
    refine (live_any w1 H1.out.glob (HT0.out.below (by rw [HZ.out]; exact H1.out.below))).mono ?_
    rintro e w2 ⟨rfl, hb⟩
    have H2 : Bx _ := ⟨H1.out.step hb⟩
    clear hb
    go_wp2
    go_ret
    exact ⟨rfl, by rw [HZ.out]; exact H2.out.below⟩
  | none =>
    rw [hv] at kp
    have HV : Bx _ := ⟨hv⟩
    clear hv
    go_wp2_with fail
    refine kp.mono ?_
    rintro e w1 ⟨rfl, hb⟩
    have H1 : Bx _ := ⟨H0.out.step hb⟩
    clear hb kp p0 p1 p2 p3 p4 p5 p6 p7 p8 p9 p10 p11 p12 p13
    simp only [verV]
    have p0 := H1.out.box.cell 0 _ rfl
    have p1 := H1.out.box.cell 1 _ rfl
    have p2 := H1.out.box.cell 2 _ rfl
    have p3 := H1.out.box.cell 3 _ rfl
    have p4 := H1.out.box.cell 4 _ rfl
    have p5 := H1.out.box.cell 5 _ rfl
    have p6 := H1.out.box.cell 6 _ rfl
    have p7 := H1.out.box.cell 7 _ rfl
    have p8 := H1.out.box.cell 8 _ rfl
    have p9 := H1.out.box.cell 9 _ rfl
    have p10 := H1.out.box.cell 10 _ rfl
    have p11 := H1.out.box.cell 11 _ rfl
    have p12 := H1.out.box.cell 12 _ rfl
    have p13 := H1.out.box.cell 13 _ rfl
    have HQ : Bx (MoB w (w1.alloc (.cells (prgC D L) 28)) S w1.heap.size D L (prgC D L)) := ⟨H1.out.box.below (below1 _ _), CB.new w1 _ _, H1.out.below.alloc (Nat.le_of_lt H1.out.box.lt) _, HZ.out, H1.out.m0, H1.out.g0, HT0.out, H1.out.box.lt⟩
    go_upto_region 4 with (fail)
    generalize (w1.alloc (.cells (prgC D L) 28)) = w4 at *
    generalize w1.heap.size = Q at *
    clear p0 p1 p2 p3 p4 p5 p6 p7 p8 p9 p10 p11 p12 p13 H1 H0
    have HE : Bx (RowL 1 (fun z : Int => [Value.int .i64 z]) (w4.alloc (.cells #[] 2)) L.am D.times ∧ (w4.alloc (.cells #[] 2)).ownsRow w4.heap.size 2 1 (.slice (some ⟨w4.heap.size, 0, none⟩) 0 0) 0 []) := ⟨RowL.below HQ.out.mem.times (below1 _ _), World.ownsRow_lit w4 #[] 0 (Nat.le_refl _) (by unfold maxLen; omega) (by simp)⟩
    have px : (w4.alloc (.cells #[] 2)).cell? ⟨S, 10, none⟩ = some (.slice L.am D.times.length L.cm) := (HQ.out.box.below (below1 _ _)).cell 10 _ rfl
    have hlen := HLEN.out.times
    go_upto_region 5 with (first | (at_builtin; refine wpList_app_row (enc := (fun z : Int => [Value.int .i64 z])) _ rfl _ _ 25 rfl w4.heap.size 2 i0 (.int .i64 0) 1 8 Tryd.underlying25 HI0.out.1 HI0.out.2.1 HI0.out.2.2.1 HI0.out.2.2.2 rfl (by decide) (.slice (some ⟨w4.heap.size, 0, none⟩) 0 0) 0 [] rfl HE.out.2 L.am D.times L.cm rfl (fun x => rfl) HE.out.1 one_i (by unfold maxLen; omega) (by omega) (below1 _ _).size ?_; intro v1 w1 hown1 hg1; have HG1 : Bx (w1.ownsRow w4.heap.size 2 1 v1 D.times.length (D.times.flatMap (fun z : Int => [Value.int .i64 z])) ∧ Below w4.heap.size w4 w1) := ⟨by simpa using hown1, below_app hg1⟩; clear hown1 hg1 px) | (at_builtin; refine wpList_app_row (enc := (fun z : Int => [Value.int .i64 z])) _ rfl _ _ 25 rfl w4.heap.size 2 i0 (.int .i64 0) 1 8 Tryd.underlying25 HI0.out.1 HI0.out.2.1 HI0.out.2.2.1 HI0.out.2.2.2 rfl (by decide) v1 D.times.length (D.times.flatMap (fun z : Int => [Value.int .i64 z])) rfl (HG1.out.1.alloc _) (some ⟨w1.heap.size, 0, none⟩) [n] 1 rfl (fun x => rfl) (lit_one (heap_alloc_new w1 _) (fun j v hj => by simpa using hj)) one_i (by unfold maxLen; simp only [List.length_cons, List.length_nil]; omega) (by simp only [List.length_cons, List.length_nil]; omega) (Nat.le_trans HG1.out.2.size (below1 _ _).size) ?_; intro v2 w2 hown2 hg2; have HG2 : Bx (w2.ownsRow w4.heap.size 2 1 v2 (D.times ++ [n]).length ((D.times ++ [n]).flatMap (fun z : Int => [Value.int .i64 z])) ∧ Below w4.heap.size w4 w2) := ⟨by simpa [List.flatMap_append] using hown2, belowOwn (HG1.out.2.alloc HG1.out.2.size _) hg2 (fun g e => (HG1.out.1.lt g e).1) (Nat.le_trans HG1.out.2.size (below1 _ _).size)⟩; clear hown2 hg2; obtain ⟨A10, c10, rfl, hrow2, hnew2⟩ := RowL.ofOwn (enc := (fun z : Int => [Value.int .i64 z])) (by decide) (fun x => rfl) HG2.out.1; have HN : Bx _ := ⟨And.intro hrow2 hnew2⟩; clear hrow2 hnew2; have fq := HQ.out.qfree HG2.out.2 10; have qq := HQ.out.qcell HG2.out.2 10 _ rfl) | fail)
    have HQ2 : Bx _ := ⟨HQ.out.next HG2.out.2 10 (.slice A10 (D.times.length + 1) c10)⟩
    have HTN : Bx (Turned [Q] w4 (w2.setCell ⟨Q, 10, none⟩ (.slice A10 (D.times.length + 1) c10))) := ⟨(Turned.ofBelow HG2.out.2).trans (Turned.set _ _ _)⟩
    have HM10 : Bx (Made (w2.setCell ⟨Q, 10, none⟩ (.slice A10 (D.times.length + 1) c10)) Q 1 (fun z : Int => [Value.int .i64 z]) A10 (D.times ++ [n])) := ⟨made_set HN.out.1 (fun b off e => Nat.lt_of_lt_of_le HQ.out.qlt (HN.out.2 b off e))⟩
    clear HE HG1 HG2 HN fq qq HQ hlen
    have HQ : Bx _ := ⟨HQ2.out⟩
    clear HQ2 HTN
    generalize (w2.setCell ⟨Q, 10, none⟩ (.slice A10 (D.times.length + 1) c10)) = w5 at *
    clear w2
    have HE : Bx (RowL 1 (fun z : Int => [Value.int .i64 z]) (w5.alloc (.cells #[] 2)) L.az D.ints ∧ (w5.alloc (.cells #[] 2)).ownsRow w5.heap.size 2 1 (.slice (some ⟨w5.heap.size, 0, none⟩) 0 0) 0 []) := ⟨RowL.below HQ.out.mem.ints (below1 _ _), World.ownsRow_lit w5 #[] 0 (Nat.le_refl _) (by unfold maxLen; omega) (by simp)⟩
    have px : (w5.alloc (.cells #[] 2)).cell? ⟨S, 11, none⟩ = some (.slice L.az D.ints.length L.cz) := (HQ.out.box.below (below1 _ _)).cell 11 _ rfl
    have hlen := HLEN.out.ints
    go_upto_region 6 with (first | (at_builtin; refine wpList_app_row (enc := (fun z : Int => [Value.int .i64 z])) _ rfl _ _ 25 rfl w5.heap.size 2 i0 (.int .i64 0) 1 8 Tryd.underlying25 HI0.out.1 HI0.out.2.1 HI0.out.2.2.1 HI0.out.2.2.2 rfl (by decide) (.slice (some ⟨w5.heap.size, 0, none⟩) 0 0) 0 [] rfl HE.out.2 L.az D.ints L.cz rfl (fun x => rfl) HE.out.1 one_i (by unfold maxLen; omega) (by omega) (below1 _ _).size ?_; intro v1 w1 hown1 hg1; have HG1 : Bx (w1.ownsRow w5.heap.size 2 1 v1 D.ints.length (D.ints.flatMap (fun z : Int => [Value.int .i64 z])) ∧ Below w5.heap.size w5 w1) := ⟨by simpa using hown1, below_app hg1⟩; clear hown1 hg1 px) | (at_builtin; refine wpList_app_row (enc := (fun z : Int => [Value.int .i64 z])) _ rfl _ _ 25 rfl w5.heap.size 2 i0 (.int .i64 0) 1 8 Tryd.underlying25 HI0.out.1 HI0.out.2.1 HI0.out.2.2.1 HI0.out.2.2.2 rfl (by decide) v1 D.ints.length (D.ints.flatMap (fun z : Int => [Value.int .i64 z])) rfl (HG1.out.1.alloc _) (some ⟨w1.heap.size, 0, none⟩) [n] 1 rfl (fun x => rfl) (lit_one (heap_alloc_new w1 _) (fun j v hj => by simpa using hj)) one_i (by unfold maxLen; simp only [List.length_cons, List.length_nil]; omega) (by simp only [List.length_cons, List.length_nil]; omega) (Nat.le_trans HG1.out.2.size (below1 _ _).size) ?_; intro v2 w2 hown2 hg2; have HG2 : Bx (w2.ownsRow w5.heap.size 2 1 v2 (D.ints ++ [n]).length ((D.ints ++ [n]).flatMap (fun z : Int => [Value.int .i64 z])) ∧ Below w5.heap.size w5 w2) := ⟨by simpa [List.flatMap_append] using hown2, belowOwn (HG1.out.2.alloc HG1.out.2.size _) hg2 (fun g e => (HG1.out.1.lt g e).1) (Nat.le_trans HG1.out.2.size (below1 _ _).size)⟩; clear hown2 hg2; obtain ⟨A11, c11, rfl, hrow2, hnew2⟩ := RowL.ofOwn (enc := (fun z : Int => [Value.int .i64 z])) (by decide) (fun x => rfl) HG2.out.1; have HN : Bx _ := ⟨And.intro hrow2 hnew2⟩; clear hrow2 hnew2; have fq := HQ.out.qfree HG2.out.2 11; have qq := HQ.out.qcell HG2.out.2 11 _ rfl) | fail)
    have HQ2 : Bx _ := ⟨HQ.out.next HG2.out.2 11 (.slice A11 (D.ints.length + 1) c11)⟩
    have HTN : Bx (Turned [Q] w5 (w2.setCell ⟨Q, 11, none⟩ (.slice A11 (D.ints.length + 1) c11))) := ⟨(Turned.ofBelow HG2.out.2).trans (Turned.set _ _ _)⟩
    have HM11 : Bx (Made (w2.setCell ⟨Q, 11, none⟩ (.slice A11 (D.ints.length + 1) c11)) Q 1 (fun z : Int => [Value.int .i64 z]) A11 (D.ints ++ [n])) := ⟨made_set HN.out.1 (fun b off e => Nat.lt_of_lt_of_le HQ.out.qlt (HN.out.2 b off e))⟩
    replace HM10 := Bx.mk (HM10.out.turned HTN.out)
    clear HE HG1 HG2 HN fq qq HQ hlen
    have HQ : Bx _ := ⟨HQ2.out⟩
    clear HQ2 HTN
    generalize (w2.setCell ⟨Q, 11, none⟩ (.slice A11 (D.ints.length + 1) c11)) = w6 at *
    clear w2
    have HE : Bx (RowL 2 (fun a : Nat × List UInt8 => [Value.int .u8 (a.1 : Int), strV a.2]) (w6.alloc (.cells #[] 41)) L.ac D.accs ∧ (w6.alloc (.cells #[] 41)).ownsRow w6.heap.size 41 2 (.slice (some ⟨w6.heap.size, 0, none⟩) 0 0) 0 []) := ⟨RowL.below HQ.out.mem.accs (below1 _ _), World.ownsRow_lit w6 #[] 0 (Nat.le_refl _) (by unfold maxLen; omega) (by simp)⟩
    have px : (w6.alloc (.cells #[] 41)).cell? ⟨S, 5, none⟩ = some (.slice L.ac D.accs.length L.cc) := (HQ.out.box.below (below1 _ _)).cell 5 _ rfl
    have hlen := HLEN.out.accs
    go_upto_region 7 with (first | (at_builtin; refine wpList_app_row (enc := (fun a : Nat × List UInt8 => [Value.int .u8 (a.1 : Int), strV a.2])) _ rfl _ _ 23 rfl w6.heap.size 41 i1 (.agg #[.int .u8 0, .string ⟨#[]⟩]) 2 24 Tryd.underlying23 HI1.out.1 HI1.out.2.1 HI1.out.2.2.1 HI1.out.2.2.2 rfl (by decide) (.slice (some ⟨w6.heap.size, 0, none⟩) 0 0) 0 [] rfl HE.out.2 L.ac D.accs L.cc rfl (fun x => rfl) HE.out.1 one_a (by unfold maxLen; omega) (by omega) (below1 _ _).size ?_; intro v1 w1 hown1 hg1; have HG1 : Bx (w1.ownsRow w6.heap.size 41 2 v1 D.accs.length (D.accs.flatMap (fun a : Nat × List UInt8 => [Value.int .u8 (a.1 : Int), strV a.2])) ∧ Below w6.heap.size w6 w1) := ⟨by simpa using hown1, below_app hg1⟩; clear hown1 hg1 px) | (at_builtin; refine wpList_app_row (enc := (fun a : Nat × List UInt8 => [Value.int .u8 (a.1 : Int), strV a.2])) _ rfl _ _ 23 rfl w6.heap.size 41 i1 (.agg #[.int .u8 0, .string ⟨#[]⟩]) 2 24 Tryd.underlying23 HI1.out.1 HI1.out.2.1 HI1.out.2.2.1 HI1.out.2.2.2 rfl (by decide) v1 D.accs.length (D.accs.flatMap (fun a : Nat × List UInt8 => [Value.int .u8 (a.1 : Int), strV a.2])) rfl (HG1.out.1.alloc _) (some ⟨w1.heap.size, 0, none⟩) [(7, [119])] 1 rfl (fun x => rfl) (lit_one (heap_alloc_new w1 _) (fun j v hj => by simpa using hj)) one_a (by unfold maxLen; simp only [List.length_cons, List.length_nil]; omega) (by simp only [List.length_cons, List.length_nil]; omega) (Nat.le_trans HG1.out.2.size (below1 _ _).size) ?_; intro v2 w2 hown2 hg2; have HG2 : Bx (w2.ownsRow w6.heap.size 41 2 v2 (D.accs ++ [(7, [119])]).length ((D.accs ++ [(7, [119])]).flatMap (fun a : Nat × List UInt8 => [Value.int .u8 (a.1 : Int), strV a.2])) ∧ Below w6.heap.size w6 w2) := ⟨by simpa [List.flatMap_append] using hown2, belowOwn (HG1.out.2.alloc HG1.out.2.size _) hg2 (fun g e => (HG1.out.1.lt g e).1) (Nat.le_trans HG1.out.2.size (below1 _ _).size)⟩; clear hown2 hg2; obtain ⟨A5, c5, rfl, hrow2, hnew2⟩ := RowL.ofOwn (enc := (fun a : Nat × List UInt8 => [Value.int .u8 (a.1 : Int), strV a.2])) (by decide) (fun x => rfl) HG2.out.1; have HN : Bx _ := ⟨And.intro hrow2 hnew2⟩; clear hrow2 hnew2; have fq := HQ.out.qfree HG2.out.2 5; have qq := HQ.out.qcell HG2.out.2 5 _ rfl) | fail)
    have HQ2 : Bx _ := ⟨HQ.out.next HG2.out.2 5 (.slice A5 (D.accs.length + 1) c5)⟩
    have HTN : Bx (Turned [Q] w6 (w2.setCell ⟨Q, 5, none⟩ (.slice A5 (D.accs.length + 1) c5))) := ⟨(Turned.ofBelow HG2.out.2).trans (Turned.set _ _ _)⟩
    have HM5 : Bx (Made (w2.setCell ⟨Q, 5, none⟩ (.slice A5 (D.accs.length + 1) c5)) Q 2 (fun a : Nat × List UInt8 => [Value.int .u8 (a.1 : Int), strV a.2]) A5 (D.accs ++ [(7, [119])])) := ⟨made_set HN.out.1 (fun b off e => Nat.lt_of_lt_of_le HQ.out.qlt (HN.out.2 b off e))⟩
    replace HM10 := Bx.mk (HM10.out.turned HTN.out)
    replace HM11 := Bx.mk (HM11.out.turned HTN.out)
    clear HE HG1 HG2 HN fq qq HQ hlen
    have HQ : Bx _ := ⟨HQ2.out⟩
    clear HQ2 HTN
    generalize (w2.setCell ⟨Q, 5, none⟩ (.slice A5 (D.accs.length + 1) c5)) = w7 at *
    clear w2
    have HE : Bx (RowL 1 (fun s : List UInt8 => [strV s]) (w7.alloc (.cells #[] 9)) L.at_ D.texts ∧ (w7.alloc (.cells #[] 9)).ownsRow w7.heap.size 9 1 (.slice (some ⟨w7.heap.size, 0, none⟩) 0 0) 0 []) := ⟨RowL.below HQ.out.mem.texts (below1 _ _), World.ownsRow_lit w7 #[] 0 (Nat.le_refl _) (by unfold maxLen; omega) (by simp)⟩
    have px : (w7.alloc (.cells #[] 9)).cell? ⟨S, 8, none⟩ = some (.slice L.at_ D.texts.length L.ct) := (HQ.out.box.below (below1 _ _)).cell 8 _ rfl
    have hlen := HLEN.out.texts
    go_upto_region 8 with (first | (at_builtin; refine wpList_app_row (enc := (fun s : List UInt8 => [strV s])) _ rfl _ _ 22 rfl w7.heap.size 9 i2 (.string ⟨#[]⟩) 1 16 Tryd.underlying22 HI2.out.1 HI2.out.2.1 HI2.out.2.2.1 HI2.out.2.2.2 rfl (by decide) (.slice (some ⟨w7.heap.size, 0, none⟩) 0 0) 0 [] rfl HE.out.2 L.at_ D.texts L.ct rfl (fun x => rfl) HE.out.1 one_s (by unfold maxLen; omega) (by omega) (below1 _ _).size ?_; intro v1 w1 hown1 hg1; have HG1 : Bx (w1.ownsRow w7.heap.size 9 1 v1 D.texts.length (D.texts.flatMap (fun s : List UInt8 => [strV s])) ∧ Below w7.heap.size w7 w1) := ⟨by simpa using hown1, below_app hg1⟩; clear hown1 hg1 px) | (at_builtin; refine wpList_app_row (enc := (fun s : List UInt8 => [strV s])) _ rfl _ _ 22 rfl w7.heap.size 9 i2 (.string ⟨#[]⟩) 1 16 Tryd.underlying22 HI2.out.1 HI2.out.2.1 HI2.out.2.2.1 HI2.out.2.2.2 rfl (by decide) v1 D.texts.length (D.texts.flatMap (fun s : List UInt8 => [strV s])) rfl (HG1.out.1.alloc _) (some ⟨w1.heap.size, 0, none⟩) [([] : List UInt8)] 1 rfl (fun x => rfl) (lit_one (heap_alloc_new w1 _) (fun j v hj => by simpa using hj)) one_s (by unfold maxLen; simp only [List.length_cons, List.length_nil]; omega) (by simp only [List.length_cons, List.length_nil]; omega) (Nat.le_trans HG1.out.2.size (below1 _ _).size) ?_; intro v2 w2 hown2 hg2; have HG2 : Bx (w2.ownsRow w7.heap.size 9 1 v2 (D.texts ++ [([] : List UInt8)]).length ((D.texts ++ [([] : List UInt8)]).flatMap (fun s : List UInt8 => [strV s])) ∧ Below w7.heap.size w7 w2) := ⟨by simpa [List.flatMap_append] using hown2, belowOwn (HG1.out.2.alloc HG1.out.2.size _) hg2 (fun g e => (HG1.out.1.lt g e).1) (Nat.le_trans HG1.out.2.size (below1 _ _).size)⟩; clear hown2 hg2; obtain ⟨A8, c8, rfl, hrow2, hnew2⟩ := RowL.ofOwn (enc := (fun s : List UInt8 => [strV s])) (by decide) (fun x => rfl) HG2.out.1; have HN : Bx _ := ⟨And.intro hrow2 hnew2⟩; clear hrow2 hnew2; have fq := HQ.out.qfree HG2.out.2 8; have qq := HQ.out.qcell HG2.out.2 8 _ rfl) | fail)
    have HQ2 : Bx _ := ⟨HQ.out.next HG2.out.2 8 (.slice A8 (D.texts.length + 1) c8)⟩
    have HTN : Bx (Turned [Q] w7 (w2.setCell ⟨Q, 8, none⟩ (.slice A8 (D.texts.length + 1) c8))) := ⟨(Turned.ofBelow HG2.out.2).trans (Turned.set _ _ _)⟩
    have HM8 : Bx (Made (w2.setCell ⟨Q, 8, none⟩ (.slice A8 (D.texts.length + 1) c8)) Q 1 (fun s : List UInt8 => [strV s]) A8 (D.texts ++ [([] : List UInt8)])) := ⟨made_set HN.out.1 (fun b off e => Nat.lt_of_lt_of_le HQ.out.qlt (HN.out.2 b off e))⟩
    replace HM10 := Bx.mk (HM10.out.turned HTN.out)
    replace HM11 := Bx.mk (HM11.out.turned HTN.out)
    replace HM5 := Bx.mk (HM5.out.turned HTN.out)
    clear HE HG1 HG2 HN fq qq HQ hlen
    have HQ : Bx _ := ⟨HQ2.out⟩
    clear HQ2 HTN
    generalize (w2.setCell ⟨Q, 8, none⟩ (.slice A8 (D.texts.length + 1) c8)) = w8 at *
    clear w2
    have C1 := CB.new w8 #[.string ⟨#[109]⟩] 9
    have C2 : CB ((w8.alloc (.cells #[.string ⟨#[109]⟩] 9)).alloc (.cells #[strV name] 9)) (w8.heap.size + 1) #[strV name] := by
      have := CB.new (w8.alloc (.cells #[.string ⟨#[109]⟩] 9)) #[strV name] 9
      simpa only [heap_push, Array.size_push] using this
    have HC : Bx _ := ⟨And.intro (C1.below (below1 _ (.cells #[strV name] 9))) C2⟩
    clear C1 C2
    go_wp2_with fail
    refine (small_any _).mono ?_
    rintro e w9 ⟨L2, rfl, hm2, hcf2, hb⟩
    clear hcf2
    have hb9 := (below2 w8 (.cells #[.string ⟨#[109]⟩] 9) (.cells #[strV name] 9)).trans (hb.mono (below2 _ _ _).size)
    have HQX : Bx _ := ⟨HQ.out.step hb9⟩
    replace HM10 := Bx.mk (HM10.out.turned (Turned.ofBelow hb9))
    replace HM11 := Bx.mk (HM11.out.turned (Turned.ofBelow hb9))
    replace HM5 := Bx.mk (HM5.out.turned (Turned.ofBelow hb9))
    replace HM8 := Bx.mk (HM8.out.turned (Turned.ofBelow hb9))
    have HC9 : Bx _ := ⟨And.intro (HC.out.1.below hb) (And.intro (HC.out.2.below hb) hm2)⟩
    clear hb hb9 HQ HC hm2
    have HQ : Bx _ := ⟨HQX.out⟩
    clear HQX
    generalize w8.heap.size = B1 at *
    have hfd : ∀ w : World, (Instr.field 28 (prgV D0 L2) 12).run Tryd.prog w = .ok (.slice L2.af 2 L2.cf) w := fun w => by kernel_rfl
    go_wp2_with fail
    clear hfd
    have hb10 := below2 w9 (.cells #[.int .u8 15, .int .i64 0, .int .i64 0, .int .u8 23, .int .i64 0, .int .i64 0, .int .u8 24, .int .i64 0, .int .i64 0] 45) (.cells #[.int .i64 1] 2)
    have hm3 : PrgM ((w9.alloc (.cells #[.int .u8 15, .int .i64 0, .int .i64 0, .int .u8 23, .int .i64 0, .int .i64 0, .int .u8 24, .int .i64 0, .int .i64 0] 45)).alloc (.cells #[.int .i64 1] 2)) (nameD name) ⟨none, 0, none, 0, some ⟨B1, 0, none⟩, 1, some ⟨B1 + 1, 0, none⟩, 1, none, 0, none, 0, none, 0, some ⟨w9.heap.size + 1, 0, none⟩, 1, L2.af, L2.cf, some ⟨w9.heap.size, 0, none⟩, 3, fun _ => none, fun _ => 0⟩ := by
      obtain ⟨T1, c1⟩ := HC9.out.1.below hb10
      obtain ⟨T2, c2⟩ := HC9.out.2.1.below hb10
      obtain ⟨T3, c3⟩ := (CB.new w9 #[.int .u8 15, .int .i64 0, .int .i64 0, .int .u8 23, .int .i64 0, .int .i64 0, .int .u8 24, .int .i64 0, .int .i64 0] 45).below (below1 _ (.cells #[.int .i64 1] 2))
      obtain ⟨T4, c4⟩ := CB.new (w9.alloc (.cells #[.int .u8 15, .int .i64 0, .int .i64 0, .int .u8 23, .int .i64 0, .int .i64 0, .int .u8 24, .int .i64 0, .int .i64 0] 45)) #[.int .i64 1] 2
      rw [show (w9.alloc (.cells #[.int .u8 15, .int .i64 0, .int .i64 0, .int .u8 23, .int .i64 0, .int .i64 0, .int .u8 24, .int .i64 0, .int .i64 0] 45)).heap.size = w9.heap.size + 1 by simp only [heap_push, Array.size_push]] at c4
      refine ⟨RowL.nil, RowL.nil, lit_one c1 (fun j v hj => by simpa using hj), lit_one c2 (fun j v hj => by simpa using hj), RowL.nil, fun h => absurd h (by simp [nameD]), by simp [nameD], RowL.nil, lit_one c4 (fun j v hj => by simpa using hj), (HC9.out.2.2.below hb10).filter, row_of_cb c3 (fun i x hx j v hj => ?_) (by simp [nameD])⟩
      match i, hx with
      | 0, hx =>
        cases hx
        match j, hj with
        | 0, hj => cases hj; rfl
        | 1, hj => cases hj; rfl
        | 2, hj => cases hj; rfl
      | 1, hx =>
        cases hx
        match j, hj with
        | 0, hj => cases hj; rfl
        | 1, hj => cases hj; rfl
        | 2, hj => cases hj; rfl
      | 2, hx =>
        cases hx
        match j, hj with
        | 0, hj => cases hj; rfl
        | 1, hj => cases hj; rfl
        | 2, hj => cases hj; rfl
    have kr := rprogram_any (nameD name) ⟨none, 0, none, 0, some ⟨B1, 0, none⟩, 1, some ⟨B1 + 1, 0, none⟩, 1, none, 0, none, 0, none, 0, some ⟨w9.heap.size + 1, 0, none⟩, 1, L2.af, L2.cf, some ⟨w9.heap.size, 0, none⟩, 3, fun _ => none, fun _ => 0⟩ _ hm3 (name_bound HNM.out) (HQ.out.glob.below hb10)
    rw [ver_name] at kr
    cases hw : wordB name with
    | true =>
      rw [hw] at kr
      have HWD : Bx _ := ⟨hw⟩
      clear hw
      simp only [if_true, verB] at kr
      refine kr.mono ?_
      rintro e w11 ⟨rfl, hb⟩
      have hbb := hb10.trans (hb.mono hb10.size)
      have HQX : Bx _ := ⟨HQ.out.step hbb⟩
      replace HM10 := Bx.mk (HM10.out.turned (Turned.ofBelow hbb))
      replace HM11 := Bx.mk (HM11.out.turned (Turned.ofBelow hbb))
      replace HM5 := Bx.mk (HM5.out.turned (Turned.ofBelow hbb))
      replace HM8 := Bx.mk (HM8.out.turned (Turned.ofBelow hbb))
      clear hb kr hbb HQ hb10 hm3
      have HQ : Bx _ := ⟨HQX.out⟩
      clear HQX
      have hfb : ∀ c w, (Instr.field 36 (badV c) 0).run Tryd.prog w = .ok (.int .i64 c) w := fun c w => by kernel_rfl
      go_upto_region 9 with (fail)
      have HE : Bx (RowL 1 (fun s : List UInt8 => [strV s]) (w11.alloc (.cells #[] 9)) L.an D.names ∧ (w11.alloc (.cells #[] 9)).ownsRow w11.heap.size 9 1 (.slice (some ⟨w11.heap.size, 0, none⟩) 0 0) 0 []) := ⟨RowL.below HQ.out.mem.names (below1 _ _), World.ownsRow_lit w11 #[] 0 (Nat.le_refl _) (by unfold maxLen; omega) (by simp)⟩
      have px : (w11.alloc (.cells #[] 9)).cell? ⟨S, 7, none⟩ = some (.slice L.an D.names.length L.cn) := (HQ.out.box.below (below1 _ _)).cell 7 _ rfl
      have hlen := HLEN.out.names
      go_upto_region 10 with (first | (at_builtin; refine wpList_app_row (enc := (fun s : List UInt8 => [strV s])) _ rfl _ _ 22 rfl w11.heap.size 9 i2 (.string ⟨#[]⟩) 1 16 Tryd.underlying22 HI2.out.1 HI2.out.2.1 HI2.out.2.2.1 HI2.out.2.2.2 rfl (by decide) (.slice (some ⟨w11.heap.size, 0, none⟩) 0 0) 0 [] rfl HE.out.2 L.an D.names L.cn rfl (fun x => rfl) HE.out.1 one_s (by unfold maxLen; omega) (by omega) (below1 _ _).size ?_; intro v1 w1 hown1 hg1; have HG1 : Bx (w1.ownsRow w11.heap.size 9 1 v1 D.names.length (D.names.flatMap (fun s : List UInt8 => [strV s])) ∧ Below w11.heap.size w11 w1) := ⟨by simpa using hown1, below_app hg1⟩; clear hown1 hg1 px) | (at_builtin; refine wpList_app_row (enc := (fun s : List UInt8 => [strV s])) _ rfl _ _ 22 rfl w11.heap.size 9 i2 (.string ⟨#[]⟩) 1 16 Tryd.underlying22 HI2.out.1 HI2.out.2.1 HI2.out.2.2.1 HI2.out.2.2.2 rfl (by decide) v1 D.names.length (D.names.flatMap (fun s : List UInt8 => [strV s])) rfl (HG1.out.1.alloc _) (some ⟨w1.heap.size, 0, none⟩) [name] 1 rfl (fun x => rfl) (lit_one (heap_alloc_new w1 _) (fun j v hj => by simpa using hj)) one_s (by unfold maxLen; simp only [List.length_cons, List.length_nil]; omega) (by simp only [List.length_cons, List.length_nil]; omega) (Nat.le_trans HG1.out.2.size (below1 _ _).size) ?_; intro v2 w2 hown2 hg2; have HG2 : Bx (w2.ownsRow w11.heap.size 9 1 v2 (D.names ++ [name]).length ((D.names ++ [name]).flatMap (fun s : List UInt8 => [strV s])) ∧ Below w11.heap.size w11 w2) := ⟨by simpa [List.flatMap_append] using hown2, belowOwn (HG1.out.2.alloc HG1.out.2.size _) hg2 (fun g e => (HG1.out.1.lt g e).1) (Nat.le_trans HG1.out.2.size (below1 _ _).size)⟩; clear hown2 hg2; obtain ⟨A7, c7, rfl, hrow2, hnew2⟩ := RowL.ofOwn (enc := (fun s : List UInt8 => [strV s])) (by decide) (fun x => rfl) HG2.out.1; have HN : Bx _ := ⟨And.intro hrow2 hnew2⟩; clear hrow2 hnew2; have fq := HQ.out.qfree HG2.out.2 7; have qq := HQ.out.qcell HG2.out.2 7 _ rfl) | fail)
      have HQ2 : Bx _ := ⟨HQ.out.next HG2.out.2 7 (.slice A7 (D.names.length + 1) c7)⟩
      have HTN : Bx (Turned [Q] w11 (w2.setCell ⟨Q, 7, none⟩ (.slice A7 (D.names.length + 1) c7))) := ⟨(Turned.ofBelow HG2.out.2).trans (Turned.set _ _ _)⟩
      have HM7 : Bx (Made (w2.setCell ⟨Q, 7, none⟩ (.slice A7 (D.names.length + 1) c7)) Q 1 (fun s : List UInt8 => [strV s]) A7 (D.names ++ [name])) := ⟨made_set HN.out.1 (fun b off e => Nat.lt_of_lt_of_le HQ.out.qlt (HN.out.2 b off e))⟩
      replace HM10 := Bx.mk (HM10.out.turned HTN.out)
      replace HM11 := Bx.mk (HM11.out.turned HTN.out)
      replace HM5 := Bx.mk (HM5.out.turned HTN.out)
      replace HM8 := Bx.mk (HM8.out.turned HTN.out)
      clear HE HG1 HG2 HN fq qq HQ hlen
      have HQ : Bx _ := ⟨HQ2.out⟩
      clear HQ2 HTN
      generalize (w2.setCell ⟨Q, 7, none⟩ (.slice A7 (D.names.length + 1) c7)) = w12 at *
      clear w2
      have kl := live_any _ HQ.out.glob HQ.out.tab
      go_wp2_with fail
      refine kl.mono ?_
      rintro e wx ⟨rfl, hb⟩
      have HQX : Bx _ := ⟨HQ.out.step hb⟩
      replace HM10 := Bx.mk (HM10.out.turned (Turned.ofBelow hb))
      replace HM11 := Bx.mk (HM11.out.turned (Turned.ofBelow hb))
      replace HM5 := Bx.mk (HM5.out.turned (Turned.ofBelow hb))
      replace HM8 := Bx.mk (HM8.out.turned (Turned.ofBelow hb))
      replace HM7 := Bx.mk (HM7.out.turned (Turned.ofBelow hb))
      clear hb kl HQ
      have HQ : Bx _ := ⟨HQX.out⟩
      clear HQX
      have HBq : Bx (PBox wx Q (moreD D n [name]) ⟨L.ag, L.cg, A5, c5, L.al, L.cl, A7, c7, A8, c8, L.ai, L.ci, A10, c10, A11, c11, L.af, L.cf, L.ao, L.co, L.la, L.lc⟩) := ⟨HQ.out.pbox (by simp [prgC, moreD])⟩
      have hmq : PrgM wx (moreD D n [name]) ⟨L.ag, L.cg, A5, c5, L.al, L.cl, A7, c7, A8, c8, L.ai, L.ci, A10, c10, A11, c11, L.af, L.cf, L.ao, L.co, L.la, L.lc⟩ := ⟨HQ.out.mem.groups, HM5.out.row, HQ.out.mem.aliases, HM7.out.row, HM8.out.row, HQ.out.mem.lists, HQ.out.mem.nl, HM10.out.row, HM11.out.row, HQ.out.mem.filter, HQ.out.mem.output⟩
      have kp := program_any (moreD D n [name]) ⟨L.ag, L.cg, A5, c5, L.al, L.cl, A7, c7, A8, c8, L.ai, L.ci, A10, c10, A11, c11, L.af, L.cf, L.ao, L.co, L.la, L.lc⟩ wx hmq (more_bound HB.out (fun s hs => by cases hs; exact HNM.out; rename_i h; cases h)) HQ.out.glob HQ.out.tab
      rw [ver_more HV.out (by simp [HWD.out])] at kp
      have p0 := HBq.out.cell 0 _ rfl
      have p1 := HBq.out.cell 1 _ rfl
      have p2 := HBq.out.cell 2 _ rfl
      have p3 := HBq.out.cell 3 _ rfl
      have p4 := HBq.out.cell 4 _ rfl
      have p5 := HBq.out.cell 5 _ rfl
      have p6 := HBq.out.cell 6 _ rfl
      have p7 := HBq.out.cell 7 _ rfl
      have p8 := HBq.out.cell 8 _ rfl
      have p9 := HBq.out.cell 9 _ rfl
      have p10 := HBq.out.cell 10 _ rfl
      have p11 := HBq.out.cell 11 _ rfl
      have p12 := HBq.out.cell 12 _ rfl
      have p13 := HBq.out.cell 13 _ rfl
      go_wp2_with fail
      refine kp.mono ?_
      rintro e wy ⟨rfl, hb⟩
      have HQY : Bx _ := ⟨HQ.out.step hb⟩
      clear hb kp p0 p1 p2 p3 p4 p5 p6 p7 p8 p9 p10 p11 p12 p13
      simp only [verV]
      go_wp2
      go_ret
      exact ⟨rfl, by rw [HZ.out]; exact HQY.out.below⟩
    | false =>
      rw [hw] at kr
      clear hw
      simp only [Bool.false_eq_true, if_false, verB] at kr
      refine kr.mono ?_
      rintro e w11 ⟨rfl, hb⟩
      have hbb := hb10.trans (hb.mono hb10.size)
      have HQX : Bx _ := ⟨HQ.out.step hbb⟩
      replace HM10 := Bx.mk (HM10.out.turned (Turned.ofBelow hbb))
      replace HM11 := Bx.mk (HM11.out.turned (Turned.ofBelow hbb))
      replace HM5 := Bx.mk (HM5.out.turned (Turned.ofBelow hbb))
      replace HM8 := Bx.mk (HM8.out.turned (Turned.ofBelow hbb))
      clear hb kr hbb HQ hb10 hm3
      have HQ : Bx _ := ⟨HQX.out⟩
      clear HQX
      have hfb : ∀ c w, (Instr.field 36 (badV c) 0).run Tryd.prog w = .ok (.int .i64 c) w := fun c w => by kernel_rfl
      have kl := live_any _ HQ.out.glob HQ.out.tab
      go_wp2_with fail
      refine kl.mono ?_
      rintro e wx ⟨rfl, hb⟩
      have HQX : Bx _ := ⟨HQ.out.step hb⟩
      replace HM10 := Bx.mk (HM10.out.turned (Turned.ofBelow hb))
      replace HM11 := Bx.mk (HM11.out.turned (Turned.ofBelow hb))
      replace HM5 := Bx.mk (HM5.out.turned (Turned.ofBelow hb))
      replace HM8 := Bx.mk (HM8.out.turned (Turned.ofBelow hb))
      clear hb kl HQ
      have HQ : Bx _ := ⟨HQX.out⟩
      clear HQX
      have HBq : Bx (PBox wx Q (moreD D n []) ⟨L.ag, L.cg, A5, c5, L.al, L.cl, L.an, L.cn, A8, c8, L.ai, L.ci, A10, c10, A11, c11, L.af, L.cf, L.ao, L.co, L.la, L.lc⟩) := ⟨HQ.out.pbox (by simp [prgC, moreD])⟩
      have hmq : PrgM wx (moreD D n []) ⟨L.ag, L.cg, A5, c5, L.al, L.cl, L.an, L.cn, A8, c8, L.ai, L.ci, A10, c10, A11, c11, L.af, L.cf, L.ao, L.co, L.la, L.lc⟩ := ⟨HQ.out.mem.groups, HM5.out.row, HQ.out.mem.aliases, (by simpa [moreD] using HQ.out.mem.names), HM8.out.row, HQ.out.mem.lists, HQ.out.mem.nl, HM10.out.row, HM11.out.row, HQ.out.mem.filter, HQ.out.mem.output⟩
      have kp := program_any (moreD D n []) ⟨L.ag, L.cg, A5, c5, L.al, L.cl, L.an, L.cn, A8, c8, L.ai, L.ci, A10, c10, A11, c11, L.af, L.cf, L.ao, L.co, L.la, L.lc⟩ wx hmq (more_bound HB.out (fun s hs => by cases hs)) HQ.out.glob HQ.out.tab
      rw [ver_more HV.out (by rfl)] at kp
      have p0 := HBq.out.cell 0 _ rfl
      have p1 := HBq.out.cell 1 _ rfl
      have p2 := HBq.out.cell 2 _ rfl
      have p3 := HBq.out.cell 3 _ rfl
      have p4 := HBq.out.cell 4 _ rfl
      have p5 := HBq.out.cell 5 _ rfl
      have p6 := HBq.out.cell 6 _ rfl
      have p7 := HBq.out.cell 7 _ rfl
      have p8 := HBq.out.cell 8 _ rfl
      have p9 := HBq.out.cell 9 _ rfl
      have p10 := HBq.out.cell 10 _ rfl
      have p11 := HBq.out.cell 11 _ rfl
      have p12 := HBq.out.cell 12 _ rfl
      have p13 := HBq.out.cell 13 _ rfl
      go_wp2_with fail
      refine kp.mono ?_
      rintro e wy ⟨rfl, hb⟩
      have HQY : Bx _ := ⟨HQ.out.step hb⟩
      clear hb kp p0 p1 p2 p3 p4 p5 p6 p7 p8 p9 p10 p11 p12 p13
      simp only [verV]
      go_wp2
      go_ret
      exact ⟨rfl, by rw [HZ.out]; exact HQY.out.below⟩
end Go.Proofs.YtbcajmkmadgbhaaDoor
