/- The reference's Parse. -/
import Derived.Test.YthlfbakndbjhoaaDoorNumPa
import Derived.Deep.Cut
set_option linter.unusedSimpArgs false
set_option linter.unusedVariables false
namespace Go.Proofs.YthlfbakndbjhoaaDoor
open Go.RowKit
theorem wrapS_words {x : Int} {h l : Int} (e : wrapS x = h * 18446744073709551616 + l) (s : SumW h l) : hZ (wrapS x) = h ∧ lZ (wrapS x) = l := by
  obtain ⟨a, b, c, d⟩ := s
  rw [e]; unfold hZ lZ; omega
theorem added_words (a b h l h' l' x y : Int) (ha : InS a) (hb : InS b) (e1 : h = hZ a) (e2 : l = lZ a) (e3 : h' = hZ b) (e4 : l' = lZ b) (hy : y = (l + l') % 18446744073709551616)
    (hx : x = if y < l then wrap64 (wrap64 (h + h') + 1) else wrap64 (h + h')) : x = hZ (wrapS (a + b)) ∧ y = lZ (wrapS (a + b)) := by
  obtain ⟨a0, a1⟩ := ha
  obtain ⟨b0, b1⟩ := hb
  unfold hZ at e1 e3
  unfold lZ at e2 e4
  have s : SumW x y := by
    refine ⟨?_, ?_, by omega, by omega⟩
    · rw [hx]; unfold wrap64; split <;> omega
    · rw [hx]; unfold wrap64; split <;> omega
  have e : wrapS (a + b) = x * 18446744073709551616 + y := by
    rw [hx]; unfold wrapS wrap64; split <;> omega
  obtain ⟨g1, g2⟩ := wrapS_words e s
  exact ⟨g1.symm, g2.symm⟩
set_option maxRecDepth 100000 in
theorem added_any (a b : Int) (w : World) (ha : InS a) (hb : InS b) :
    Calls Tryd.prog 57 #[.agg #[.int .i64 (hZ a), .int .u64 (lZ a)], .agg #[.int .i64 (hZ b), .int .u64 (lZ b)]] w fun e w' => e = .returned (.agg #[.int .i64 (hZ (wrapS (a + b))), .int .u64 (lZ (wrapS (a + b)))]) ∧ Below w.heap.size w w' := by
  obtain ⟨h, e1⟩ : ∃ h, h = hZ a := ⟨_, rfl⟩
  obtain ⟨l, e2⟩ : ∃ l, l = lZ a := ⟨_, rfl⟩
  obtain ⟨h', e3⟩ : ∃ h, h = hZ b := ⟨_, rfl⟩
  obtain ⟨l', e4⟩ : ∃ l, l = lZ b := ⟨_, rfl⟩
  obtain ⟨y, hy⟩ : ∃ y, y = (l + l') % 18446744073709551616 := ⟨_, rfl⟩
  obtain ⟨v, hv⟩ : ∃ v, v = wrap64 (h + h') := ⟨_, rfl⟩
  obtain ⟨v1, hv1⟩ : ∃ v1, v1 = wrap64 (v + 1) := ⟨_, rfl⟩
  obtain ⟨x, hx⟩ : ∃ x, x = if y < l then v1 else v := ⟨_, rfl⟩
  obtain ⟨g1, g2⟩ := added_words a b h l h' l' x y ha hb e1 e2 e3 e4 hy (by rw [hx, hv1, hv])
  have hl : 0 ≤ l ∧ l ≤ 18446744073709551615 ∧ 0 ≤ l' ∧ l' ≤ 18446744073709551615 := by rw [e2, e4]; unfold lZ; omega
  obtain ⟨l0, l1, m0, m1⟩ := hl
  rw [← g1, ← g2, ← e1, ← e2, ← e3, ← e4]
  have r1 : IntKind.u64.wrap (l + l') = y := by rw [IntKind.wrap_u64]; omega
  have r2 : (l + l') % 18446744073709551616 = y := hy.symm
  have r3 : wrap64 (h + h') = v := hv.symm
  have r4 : wrap64 (v + 1) = v1 := hv1.symm
  have r5 : IntKind.i64.wrap (h + h') = v := by rw [IntWalk.i64_left]; exact r3
  have r6 : IntKind.i64.wrap (v + 1) = v1 := by rw [IntWalk.i64_left]; exact r4
  clear g1 g2 e1 e2 e3 e4 hy hv hv1 ha hb
  by_cases hc : y < l
  · rw [if_pos hc] at hx
    subst hx
    go_enter Tryd.func57, Tryd.ntmps57
    go_wp2
    exact bodyPost_ret (v := .agg #[.int .i64 x, .int .u64 y]) (by simp [results, Tryd.results57, go_sem]) rfl ⟨rfl, below4 _ _ _ _ _⟩
  · rw [if_neg hc] at hx
    subst hx
    go_enter Tryd.func57, Tryd.ntmps57
    go_wp2
    exact bodyPost_ret (v := .agg #[.int .i64 x, .int .u64 y]) (by simp [results, Tryd.results57, go_sem]) rfl ⟨rfl, below4 _ _ _ _ _⟩
theorem rplus_w (z n : Int) (w : World) (hz : InS z) (hn : I64 n) :
    Calls Tryd.prog 39 #[.agg #[.int .i64 (hZ z), .int .u64 (lZ z)], .int .i64 n] w fun e w' => e = .returned (.agg #[.int .i64 (hZ (wrapS (z + n))), .int .u64 (lZ (wrapS (z + n)))]) ∧ Below w.heap.size w w' := by
  have s := hz.w
  obtain ⟨e1, e2⟩ := plus_val (hZ z) (lZ z) n s.h0 s.h1 s.l0 s.l1 hn.lo hn.hi
  have sw : SumW (plusHi (hZ z) (lZ z) n) (plusLo (lZ z) n) := by
    rw [e1, e2]; unfold wrap64; exact ⟨by omega, by omega, by omega, by omega⟩
  have e : wrapS (z + n) = plusHi (hZ z) (lZ z) n * 18446744073709551616 + plusLo (lZ z) n := by
    obtain ⟨z0, z1⟩ := hz
    obtain ⟨n0, n1⟩ := hn
    rw [e1, e2]; unfold wrapS wrap64 hZ lZ; omega
  obtain ⟨g1, g2⟩ := wrapS_words e sw
  rw [g1, g2]
  exact rplus_any _ _ n s hn w
theorem cell_set_b {w : World} {B B' i j : Nat} {u v : Value} (h : w.cell? ⟨B', j, none⟩ = some v) (hB : B ≠ B') : (w.setCell ⟨B, i, none⟩ u).cell? ⟨B', j, none⟩ = some v := by
  rw [World.cell?_setCell_other]; exact h
  intro e; injection e; omega
theorem frozen_new3 (w : World) (a b c : Array Value) (T T' T'' : Nat) {k i : Nat} (h : w.heap.size ≤ k) : (((w.alloc (.cells a T)).alloc (.cells b T')).alloc (.cells c T'')).frozen? ⟨k, i, none⟩ = false := by
  rw [frozen?_alloc_cells, frozen?_alloc_cells, frozen?_alloc_cells]
  have e : w.heap[k]? = none := Array.getElem?_eq_none h
  unfold World.frozen?
  simp [e]
/-- the reference's Parse's boxes: two for the results, one for the sum -/
structure PB (w0 w : World) (R : Nat) (z : Int) : Prop where
  below : Below R w0 w
  lt : R + 1 + 1 < w.heap.size
  a0 : w.cell? ⟨R, 0, none⟩ = some (.int .i64 0)
  a1 : w.cell? ⟨R, 1, none⟩ = some (.int .u64 0)
  b0 : w.cell? ⟨R + 1, 0, none⟩ = some (.int .i64 0)
  b1 : w.cell? ⟨R + 1, 1, none⟩ = some (.int .i64 0)
  b2 : w.cell? ⟨R + 1, 2, none⟩ = some (.int .i64 0)
  b3 : w.cell? ⟨R + 1, 3, none⟩ = some (.bool false)
  b4 : w.cell? ⟨R + 1, 4, none⟩ = some (.bool false)
  v0 : w.cell? ⟨R + 1 + 1, 0, none⟩ = some (.int .i64 (hZ z))
  v1 : w.cell? ⟨R + 1 + 1, 1, none⟩ = some (.int .u64 (lZ z))
  fa : ∀ i, w.frozen? ⟨R, i, none⟩ = false
  fb : ∀ i, w.frozen? ⟨R + 1, i, none⟩ = false
  fv : ∀ i, w.frozen? ⟨R + 1 + 1, i, none⟩ = false
theorem PB.step {w0 w w' : World} {R : Nat} {z : Int} (g : PB w0 w R z) (hb : Below w.heap.size w w') : PB w0 w' R z := by
  have l2 := g.lt
  have l1 : R + 1 < w.heap.size := by omega
  have l0 : R < w.heap.size := by omega
  exact {
    below := g.below.trans (hb.mono (by omega))
    lt := Nat.lt_of_lt_of_le l2 hb.size
    a0 := by rw [hb.cell (p := ⟨R, 0, none⟩) l0]; exact g.a0
    a1 := by rw [hb.cell (p := ⟨R, 1, none⟩) l0]; exact g.a1
    b0 := by rw [hb.cell (p := ⟨R + 1, 0, none⟩) l1]; exact g.b0
    b1 := by rw [hb.cell (p := ⟨R + 1, 1, none⟩) l1]; exact g.b1
    b2 := by rw [hb.cell (p := ⟨R + 1, 2, none⟩) l1]; exact g.b2
    b3 := by rw [hb.cell (p := ⟨R + 1, 3, none⟩) l1]; exact g.b3
    b4 := by rw [hb.cell (p := ⟨R + 1, 4, none⟩) l1]; exact g.b4
    v0 := by rw [hb.cell (p := ⟨R + 1 + 1, 0, none⟩) l2]; exact g.v0
    v1 := by rw [hb.cell (p := ⟨R + 1 + 1, 1, none⟩) l2]; exact g.v1
    fa := fun i => by rw [hb.frozen (p := ⟨R, i, none⟩) l0]; exact g.fa i
    fb := fun i => by rw [hb.frozen (p := ⟨R + 1, i, none⟩) l1]; exact g.fb i
    fv := fun i => by rw [hb.frozen (p := ⟨R + 1 + 1, i, none⟩) l2]; exact g.fv i }
theorem PB.put {w0 w : World} {R : Nat} {z : Int} (g : PB w0 w R z) (y : Int) : PB w0 ((w.setCell ⟨R + 1 + 1, 0, none⟩ (.int .i64 (hZ y))).setCell ⟨R + 1 + 1, 1, none⟩ (.int .u64 (lZ y))) R y where
  below := (g.below.setCell (p := ⟨R + 1 + 1, 0, none⟩) (by show R ≤ R + 1 + 1; omega) _).setCell (p := ⟨R + 1 + 1, 1, none⟩) (by show R ≤ R + 1 + 1; omega) _
  lt := by simp only [size_set]; exact g.lt
  a0 := cell_set_b (cell_set_b g.a0 (by omega)) (by omega)
  a1 := cell_set_b (cell_set_b g.a1 (by omega)) (by omega)
  b0 := cell_set_b (cell_set_b g.b0 (by omega)) (by omega)
  b1 := cell_set_b (cell_set_b g.b1 (by omega)) (by omega)
  b2 := cell_set_b (cell_set_b g.b2 (by omega)) (by omega)
  b3 := cell_set_b (cell_set_b g.b3 (by omega)) (by omega)
  b4 := cell_set_b (cell_set_b g.b4 (by omega)) (by omega)
  v0 := cell_set_ne (cell_set_eq g.v0) (by omega)
  v1 := cell_set_eq (cell_set_ne g.v1 (by omega))
  fa := fun i => by simp only [frozen_set]; exact g.fa i
  fb := fun i => by simp only [frozen_set]; exact g.fb i
  fv := fun i => by simp only [frozen_set]; exact g.fv i
theorem PB.alloc (w : World) (T T' T'' : Nat) : PB w (((w.alloc (.cells #[.int .i64 0, .int .u64 0] T)).alloc (.cells #[.int .i64 0, .int .i64 0, .int .i64 0, .bool false, .bool false] T')).alloc (.cells #[.int .i64 0, .int .u64 0] T'')) w.heap.size 0 where
  below := below3 _ _ _ _
  lt := by simp only [heap_push, Array.size_push]; omega
  a0 := by rw [World.cell?_alloc_lt _ _ _ (by simp only [heap_push, Array.size_push]; omega), World.cell?_alloc_lt _ _ _ (by simp only [heap_push, Array.size_push]; omega), World.cell?_alloc_at _ _ _ _ rfl]; rfl
  a1 := by rw [World.cell?_alloc_lt _ _ _ (by simp only [heap_push, Array.size_push]; omega), World.cell?_alloc_lt _ _ _ (by simp only [heap_push, Array.size_push]; omega), World.cell?_alloc_at _ _ _ _ rfl]; rfl
  b0 := by rw [World.cell?_alloc_lt _ _ _ (by simp only [heap_push, Array.size_push]; omega), World.cell?_alloc_at _ _ _ _ (by simp only [heap_push, Array.size_push])]; rfl
  b1 := by rw [World.cell?_alloc_lt _ _ _ (by simp only [heap_push, Array.size_push]; omega), World.cell?_alloc_at _ _ _ _ (by simp only [heap_push, Array.size_push])]; rfl
  b2 := by rw [World.cell?_alloc_lt _ _ _ (by simp only [heap_push, Array.size_push]; omega), World.cell?_alloc_at _ _ _ _ (by simp only [heap_push, Array.size_push])]; rfl
  b3 := by rw [World.cell?_alloc_lt _ _ _ (by simp only [heap_push, Array.size_push]; omega), World.cell?_alloc_at _ _ _ _ (by simp only [heap_push, Array.size_push])]; rfl
  b4 := by rw [World.cell?_alloc_lt _ _ _ (by simp only [heap_push, Array.size_push]; omega), World.cell?_alloc_at _ _ _ _ (by simp only [heap_push, Array.size_push])]; rfl
  v0 := by rw [World.cell?_alloc_at _ _ _ _ (by simp only [heap_push, Array.size_push])]; rfl
  v1 := by rw [World.cell?_alloc_at _ _ _ _ (by simp only [heap_push, Array.size_push])]; rfl
  fa := fun i => frozen_new3 w _ _ _ _ _ _ (by omega)
  fb := fun i => frozen_new3 w _ _ _ _ _ _ (by omega)
  fv := fun i => frozen_new3 w _ _ _ _ _ _ (by omega)
/-- the results' boxes, written -/
theorem PB.fin {w0 w : World} {R : Nat} {z : Int} (g : PB w0 w R z) (a b c : Int) (w' : World)
    (hw' : w' = ((((((w.setCell ⟨R, 0, none⟩ (.int .i64 a)).setCell ⟨R, 1, none⟩ (.int .u64 b)).setCell ⟨R + 1, 0, none⟩ (.int .i64 c)).setCell ⟨R + 1, 1, none⟩ (.int .i64 0)).setCell ⟨R + 1, 2, none⟩ (.int .i64 0)).setCell ⟨R + 1, 3, none⟩ (.bool false)).setCell ⟨R + 1, 4, none⟩ (.bool false)) :
    w'.cell? ⟨R, 0, none⟩ = some (.int .i64 a) ∧ w'.cell? ⟨R, 1, none⟩ = some (.int .u64 b) ∧ w'.cell? ⟨R + 1, 0, none⟩ = some (.int .i64 c) ∧ w'.cell? ⟨R + 1, 1, none⟩ = some (.int .i64 0) ∧ w'.cell? ⟨R + 1, 2, none⟩ = some (.int .i64 0) ∧ w'.cell? ⟨R + 1, 3, none⟩ = some (.bool false) ∧ w'.cell? ⟨R + 1, 4, none⟩ = some (.bool false) ∧ Below R w0 w' := by
  subst hw'
  refine ⟨?_, ?_, ?_, ?_, ?_, ?_, ?_, ?_⟩
  · repeat refine cell_set_b ?_ (by omega)
    exact cell_set_ne (cell_set_eq g.a0) (by omega)
  · repeat refine cell_set_b ?_ (by omega)
    exact cell_set_eq (cell_set_ne g.a1 (by omega))
  · refine cell_set_ne (cell_set_ne (cell_set_ne (cell_set_ne (cell_set_eq (v := .int .i64 0) ?_) (by omega)) (by omega)) (by omega)) (by omega)
    repeat refine cell_set_b ?_ (by omega)
    exact g.b0
  · refine cell_set_ne (cell_set_ne (cell_set_ne (cell_set_eq (v := .int .i64 0) ?_) (by omega)) (by omega)) (by omega)
    refine cell_set_ne ?_ (by omega)
    repeat refine cell_set_b ?_ (by omega)
    exact g.b1
  · refine cell_set_ne (cell_set_ne (cell_set_eq (v := .int .i64 0) ?_) (by omega)) (by omega)
    refine cell_set_ne (cell_set_ne ?_ (by omega)) (by omega)
    repeat refine cell_set_b ?_ (by omega)
    exact g.b2
  · refine cell_set_ne (cell_set_eq (v := .bool false) ?_) (by omega)
    refine cell_set_ne (cell_set_ne (cell_set_ne ?_ (by omega)) (by omega)) (by omega)
    repeat refine cell_set_b ?_ (by omega)
    exact g.b3
  · refine cell_set_eq (v := .bool false) ?_
    refine cell_set_ne (cell_set_ne (cell_set_ne (cell_set_ne ?_ (by omega)) (by omega)) (by omega)) (by omega)
    repeat refine cell_set_b ?_ (by omega)
    exact g.b4
  · have h0 : R ≤ R := Nat.le_refl _
    have h1 : R ≤ R + 1 := by omega
    exact ((((((g.below.setCell (p := ⟨R, 0, none⟩) h0 _).setCell (p := ⟨R, 1, none⟩) h0 _).setCell (p := ⟨R + 1, 0, none⟩) h1 _).setCell (p := ⟨R + 1, 1, none⟩) h1 _).setCell (p := ⟨R + 1, 2, none⟩) h1 _).setCell (p := ⟨R + 1, 3, none⟩) h1 _).setCell (p := ⟨R + 1, 4, none⟩) h1 _
theorem results_sumbad {fn : Func} {u p : Tmp} (h : fn.results = #[.cell u 38, .cell p 44]) (tmps : Array Value) (w : World) (R Q : Nat) (a b c : Int) (hu : tmps[u]?.getD undef = .pointer (some ⟨R, 0, none⟩)) (hp : tmps[p]?.getD undef = .pointer (some ⟨Q, 0, none⟩))
    (y0 : w.cell? ⟨R, 0, none⟩ = some (.int .i64 a)) (y1 : w.cell? ⟨R, 1, none⟩ = some (.int .u64 b))
    (z0 : w.cell? ⟨Q, 0, none⟩ = some (.int .i64 c)) (z1 : w.cell? ⟨Q, 1, none⟩ = some (.int .i64 0)) (z2 : w.cell? ⟨Q, 2, none⟩ = some (.int .i64 0)) (z3 : w.cell? ⟨Q, 3, none⟩ = some (.bool false)) (z4 : w.cell? ⟨Q, 4, none⟩ = some (.bool false)) :
    (results fn tmps).run Tryd.prog w = .ok (.tuple #[.agg #[.int .i64 a, .int .u64 b], badV c]) w := by
  simp [results, h, go_sem, hp, hu, y0, y1, z0, z1, z2, z3, z4, badV]
/-- the digits read so far, as a number with its sign -/
def part (bl : Bool) (L : List UInt8) (k : Nat) : Int := wrapS (if bl then -(hor ((L.drop 1).take (k - 1)) : Int) else (hor (L.take k) : Int))
theorem part_in (bl : Bool) (L : List UInt8) (k : Nat) : InS (part bl L k) := wrapS_in _
theorem part_step {bl : Bool} {L : List UInt8} {k : Nat} (hk : k < L.length) (h1 : bl = true → 1 ≤ k) {d : Int} (hd : d = ((L[k].toNat - 48 : Nat) : Int)) :
    part bl L (k + 1) = wrapS (wrapS (part bl L k * 10) + (if bl then -d else d)) := by
  subst hd
  cases bl
  · simp only [part, Bool.false_eq_true, if_false]
    rw [take_one hk, Int.natCast_add, Int.natCast_mul]
    unfold wrapS; omega
  · simp only [part, if_true]
    have h := h1 rfl
    obtain ⟨j, rfl⟩ : ∃ j, k = j + 1 := ⟨k - 1, by omega⟩
    have e : (L.drop 1)[j]'(by rw [List.length_drop]; omega) = L[j + 1] := by rw [List.getElem_drop]; congr 1; omega
    have := take_one (L := L.drop 1) (k := j) (by rw [List.length_drop]; omega)
    rw [e] at this
    rw [show j + 1 + 1 - 1 = j + 1 by omega, show j + 1 - 1 = j by omega, this, Int.natCast_add, Int.natCast_mul]
    unfold wrapS; omega
/-- a fact, put away -/
structure Bx (p : Prop) : Prop where
  out : p
/-- one digit more -/
structure PStep (bl : Bool) (L : List UInt8) (k : Nat) (z : Int) (nn : Int) : Prop where
  out : part bl L (k + 1) = wrapS (wrapS (z * 10) + nn)
theorem part_done {bl : Bool} {L : List UInt8} {z : Int} (hz : InS z) (e : printL z = L) (hb : bl = true ↔ ∃ t, L = 45 :: t) : part bl L L.length = z := by
  cases bl
  · obtain ⟨h0, h1⟩ := pos_text e (fun t h => by have := hb.2 ⟨t, h⟩; cases this)
    simp only [part, Bool.false_eq_true, if_false, List.take_length]
    rw [h1, hor_decN, show ((z.natAbs : Nat) : Int) = z by omega]
    exact wrapS_of hz
  · obtain ⟨t, rfl⟩ := hb.1 rfl
    obtain ⟨h0, h1⟩ := neg_text e
    simp only [part, if_true, List.drop_one, List.tail_cons, List.length_cons, Nat.add_sub_cancel, List.take_length]
    rw [h1, hor_decN, show (-((z.natAbs : Nat) : Int)) = z by omega]
    exact wrapS_of hz
theorem part_dig {bl : Bool} {L : List UInt8} {z : Int} (e : printL z = L) (hb : bl = true ↔ ∃ t, L = 45 :: t) {k : Nat} (hk : k < L.length) (h1 : bl = true → 1 ≤ k) : IsDig L[k] := by
  cases bl
  · obtain ⟨h0, h2⟩ := pos_text e (fun t h => by have := hb.2 ⟨t, h⟩; cases this)
    exact decN_dig z.natAbs _ (by rw [← h2]; exact List.getElem_mem _)
  · obtain ⟨t, rfl⟩ := hb.1 rfl
    obtain ⟨h0, h2⟩ := neg_text e
    have h := h1 rfl
    obtain ⟨j, rfl⟩ : ∃ j, k = j + 1 := ⟨k - 1, by omega⟩
    simp only [List.getElem_cons_succ]
    exact decN_dig z.natAbs _ (by rw [← h2]; exact List.getElem_mem _)
theorem mul_step (z : Int) (k : Nat) : wrapS (wrapS (z * ((k : Int) + 1)) + z) = wrapS (z * (((k + 1 : Nat) : Int) + 1)) := by
  rw [Int.natCast_succ]
  have e : z * ((k : Int) + 1 + 1) = z * ((k : Int) + 1) + z := by rw [Int.mul_add, Int.mul_one]
  rw [e]; unfold wrapS; omega
/-- what the reference's Parse has told -/
def RPost (L : List UInt8) (w : World) (R : Nat) (e : Ending) (w' : World) : Prop :=
  ((∃ z, InS z ∧ printL z = L ∧ e = .returned (.tuple #[.agg #[.int .i64 (hZ z), .int .u64 (lZ z)], badV 0])) ∨
   ((∀ z, InS z → printL z ≠ L) ∧ e = .returned (.tuple #[.agg #[.int .i64 0, .int .u64 0], badV 31]))) ∧ Below R w w'
theorem PB.fin2 {w0 w : World} {R : Nat} {z : Int} (g : PB w0 w R z) (a b c : Int) (cs : Array Value) (T : Nat) (w' : World)
    (hw' : w' = (((((((w.setCell ⟨R, 0, none⟩ (.int .i64 a)).setCell ⟨R, 1, none⟩ (.int .u64 b)).setCell ⟨R + 1, 0, none⟩ (.int .i64 c)).setCell ⟨R + 1, 1, none⟩ (.int .i64 0)).setCell ⟨R + 1, 2, none⟩ (.int .i64 0)).setCell ⟨R + 1, 3, none⟩ (.bool false)).setCell ⟨R + 1, 4, none⟩ (.bool false)).alloc (.cells cs T)) :
    w'.cell? ⟨R, 0, none⟩ = some (.int .i64 a) ∧ w'.cell? ⟨R, 1, none⟩ = some (.int .u64 b) ∧ w'.cell? ⟨R + 1, 0, none⟩ = some (.int .i64 c) ∧ w'.cell? ⟨R + 1, 1, none⟩ = some (.int .i64 0) ∧ w'.cell? ⟨R + 1, 2, none⟩ = some (.int .i64 0) ∧ w'.cell? ⟨R + 1, 3, none⟩ = some (.bool false) ∧ w'.cell? ⟨R + 1, 4, none⟩ = some (.bool false) ∧ Below R w0 w' := by
  obtain ⟨y0, y1, z0, z1, z2, z3, z4, zb⟩ := g.fin a b c _ rfl
  have hl := g.lt
  generalize hW : ((((((w.setCell ⟨R, 0, none⟩ (.int .i64 a)).setCell ⟨R, 1, none⟩ (.int .u64 b)).setCell ⟨R + 1, 0, none⟩ (.int .i64 c)).setCell ⟨R + 1, 1, none⟩ (.int .i64 0)).setCell ⟨R + 1, 2, none⟩ (.int .i64 0)).setCell ⟨R + 1, 3, none⟩ (.bool false)).setCell ⟨R + 1, 4, none⟩ (.bool false) = W at *
  have hs : W.heap.size = w.heap.size := by rw [← hW]; simp only [size_set]
  subst hw'
  refine ⟨?_, ?_, ?_, ?_, ?_, ?_, ?_, zb.trans ((below1 _ _).mono (by omega))⟩
  all_goals (rw [World.cell?_alloc_lt _ _ _ (by rw [hs]; show _ < _; first | omega | (simp only; omega))]; assumption)
set_option maxHeartbeats 4000000 in
set_option maxRecDepth 100000 in
theorem rparse_L (L : List UInt8) (c : UInt8) (bl : Bool) (w : World) (hpos : 0 < L.length) (hL : L.length ≤ 9223372036854775807) (hc0 : (⟨L.toArray⟩ : ByteArray)[0]'(by simpa [ByteArray.size] using hpos) = c) (hbl : ((c.toNat : Int) == 45) = bl) (hb : bl = true ↔ ∃ s, L = 45 :: s) :
    Calls Tryd.prog 36 #[.string ⟨L.toArray⟩] w fun e w' => RPost L w w.heap.size e w' := by
  have I := Lib.hid (PB.alloc w 38 44 38)
  have HB := Lib.hid hb
  clear hb
  go_enter Tryd.func36, Tryd.ntmps36
  go_wp2_with fail
  have HB0 := Lib.hid hbl
  clear hbl hc0
  generalize (((w.alloc (.cells #[.int .i64 0, .int .u64 0] 38)).alloc (.cells #[.int .i64 0, .int .i64 0, .int .i64 0, .bool false, .bool false] 44)).alloc (.cells #[.int .i64 0, .int .u64 0] 38)) = w1 at *
  generalize hR : w.heap.size = R at *
  have HR := Lib.hid hR
  clear hR
  go_loopw [6] (fun i wr => ∃ k : Nat, k ≤ L.length ∧ i = .int .i64 k ∧ Hid (PB w wr R (part bl L k))) (fun i _ => L.length - (intOf i).toNat)
  case atStart => exact ⟨0, by omega, rfl, Lib.hid (by
    rw [show part bl L 0 = 0 by unfold part; cases bl <;> simp [hor_nil] <;> decide]
    exact I.out)⟩
  case round =>
    obtain ⟨k, hk, rfl, HI⟩ := hrel
    clear I
    by_cases hgo : L.length ≤ 40 ∧ k < L.length
    · obtain ⟨hlen, hlt⟩ := hgo
      obtain ⟨q, hq⟩ : ∃ q, ((k : Int) == 0) = q := ⟨_, rfl⟩
      by_cases hcont : q = true ∧ bl = true
      · obtain ⟨rfl, rfl⟩ := hcont
        have hk0 : k = 0 := by simpa using hq
        go_wp2
        exact ⟨⟨1, by omega, rfl, Lib.hid (by
          have e : part true L 1 = part true L k := by subst hk0; simp [part]
          rw [e]; exact HI.out)⟩, by simp only [intOf]; omega⟩
      · have h1 : bl = true → 1 ≤ k := fun hb1 => by
          rcases Nat.eq_zero_or_pos k with h0 | h0
          · exact absurd ⟨by rw [← hq]; simp [h0], hb1⟩ hcont
          · exact h0
        have H1 := Lib.hid h1
        clear h1
        have hdig := fun (z : Int) (e : printL z = L) => part_dig e HB.out hlt H1.out
        have HDig := Lib.hid hdig
        clear hdig
        obtain ⟨b, hb⟩ : ∃ b, L[k] = b := ⟨_, rfl⟩
        have hbk : ((⟨L.toArray⟩ : ByteArray)[k]'(by simpa [ByteArray.size] using hlt)) = b := hb
        have HBB := Lib.hid hb
        clear hb
        have c0 := HI.out.v0
        have c1 := HI.out.v1
        have a0 := HI.out.a0
        have a1 := HI.out.a1
        have e0 := HI.out.b0
        have e1 := HI.out.b1
        have e2 := HI.out.b2
        have e3 := HI.out.b3
        have e4 := HI.out.b4
        have fa := HI.out.fa
        have fb := HI.out.fb
        have fv := HI.out.fv
        have olt := HI.out.lt
        have olt1 : R + 1 < wr.heap.size := by omega
        have olt0 : R < wr.heap.size := by omega
        by_cases hdg : 48 ≤ b.toNat ∧ b.toNat ≤ 57
        · obtain ⟨hd0, hd1⟩ := hdg
          obtain ⟨dd, hdd⟩ : ∃ dd, b.toNat - 48 = dd := ⟨_, rfl⟩
          have hds : (b.toNat : Int) - 48 = dd := by omega
          have hdd9 : dd ≤ 9 := by omega
          have hn0 : ¬ b.toNat < 48 := by omega
          have hn1 : ¬ 57 < b.toNat := by omega
          clear hd0 hd1
          obtain ⟨nn, hnn⟩ : ∃ nn : Int, (if bl then -(dd : Int) else (dd : Int)) = nn := ⟨_, rfl⟩
          have hnnI : I64 nn := by rw [← hnn]; exact ⟨by split <;> omega, by split <;> omega⟩
          have HT : PStep bl L k (part bl L k) nn := ⟨by rw [← hnn]; exact part_step hlt H1.out (by rw [HBB.out, hdd])⟩
          clear hdd
          have hzi := part_in bl L k
          generalize part bl L k = z at *
          clear HDig
          have hz1 : wrapS (z * (((0 : Nat) : Int) + 1)) = z := by rw [show z * (((0 : Nat) : Int) + 1) = z by simp]; exact wrapS_of hzi
          have HZ1 := Lib.hid hz1
          clear hz1
          have HZI := Lib.hid hzi
          clear hzi
          cases q <;> cases bl
          all_goals
            first
            | exact absurd ⟨rfl, rfl⟩ hcont
            | (clear hcont
               go_wp2_with fail
               have HQ : Hid ((wr.alloc (.cells #[.int .i64 (hZ z), .int .u64 (lZ z)] 38)).cell? ⟨wr.heap.size, 0, none⟩ = some (.int .i64 (hZ z)) ∧ (wr.alloc (.cells #[.int .i64 (hZ z), .int .u64 (lZ z)] 38)).cell? ⟨wr.heap.size, 1, none⟩ = some (.int .u64 (lZ z))) := Lib.hid ⟨by rw [World.cell?_alloc_at _ _ _ _ rfl]; rfl, by rw [World.cell?_alloc_at _ _ _ _ rfl]; rfl⟩
               have HJ : Hid (PB w (wr.alloc (.cells #[.int .i64 (hZ z), .int .u64 (lZ z)] 38)) R z) := Lib.hid (HI.out.step (below1 _ _))
               clear c0 c1 a0 a1 e0 e1 e2 e3 e4 fa fb fv olt1 olt0
               generalize (wr.alloc (.cells #[.int .i64 (hZ z), .int .u64 (lZ z)] 38)) = w2 at *
               generalize hQ : wr.heap.size = Q at *
               have HQQ := Lib.hid hQ
               clear hQ
               simp only [Bool.false_eq_true, if_false, if_true] at hnn
               go_loopw [8] (fun j wi => ∃ m : Nat, m ≤ 9 ∧ j = .int .i64 m ∧ Bx (PB w wi R (wrapS (z * ((m : Int) + 1)))) ∧ Bx (wi.cell? ⟨Q, 0, none⟩ = some (.int .i64 (hZ z)) ∧ wi.cell? ⟨Q, 1, none⟩ = some (.int .u64 (lZ z)) ∧ R + 1 + 1 < Q ∧ Q < wi.heap.size)) (fun j _ => 9 - (intOf j).toNat)
               case atStart => exact ⟨0, by omega, rfl, ⟨by rw [HZ1.out]; exact HJ.out⟩, ⟨HQ.out.1, HQ.out.2, olt, cell_lt HQ.out.1⟩⟩
               case round =>
                 obtain ⟨m, hm, rfl, HK, HC⟩ := hrel
                 clear HJ HQ HZ1
                 by_cases hm9 : m < 9
                 · obtain ⟨y, hy⟩ : ∃ y, wrapS (z * ((m : Int) + 1)) = y := ⟨_, rfl⟩
                   have hyi : InS y := by rw [← hy]; exact wrapS_in _
                   have kad := fun w => added_any y z w hyi HZI.out
                   rw [hy] at HK
                   have HY : Bx (wrapS (z * ((m : Int) + 1)) = y) := ⟨hy⟩
                   clear hy hyi
                   have v0 := HK.out.v0
                   have v1 := HK.out.v1
                   have q0 := HC.out.1
                   have q1 := HC.out.2.1
                   go_wp2_with fail
                   refine (kad _).mono ?_; rintro e w3 ⟨rfl, h3⟩
                   have HL : Bx (PB w w3 R y) := ⟨HK.out.step h3⟩
                   have HC3 : Bx (w3.cell? ⟨Q, 0, none⟩ = some (.int .i64 (hZ z)) ∧ w3.cell? ⟨Q, 1, none⟩ = some (.int .u64 (lZ z)) ∧ R + 1 + 1 < Q ∧ Q < w3.heap.size) := ⟨by rw [h3.cell (p := ⟨Q, 0, none⟩) HC.out.2.2.2]; exact HC.out.1, by rw [h3.cell (p := ⟨Q, 1, none⟩) HC.out.2.2.2]; exact HC.out.2.1, HC.out.2.2.1, Nat.lt_of_lt_of_le HC.out.2.2.2 h3.size⟩
                   clear HK HC h3 v0 v1 q0 q1 kad
                   have v0 := HL.out.v0
                   have v1 := HL.out.v1
                   have fv := HL.out.fv
                   have olt2 := HL.out.lt
                   go_wp2
                   exact ⟨⟨m + 1, by omega, by rw [Int.natCast_succ], ⟨by rw [← mul_step, HY.out]; exact HL.out.put _⟩, ⟨cell_set_b (cell_set_b HC3.out.1 (by have := HC3.out.2.2.1; omega)) (by have := HC3.out.2.2.1; omega), cell_set_b (cell_set_b HC3.out.2.1 (by have := HC3.out.2.2.1; omega)) (by have := HC3.out.2.2.1; omega), HC3.out.2.2.1, by simp only [size_set]; exact HC3.out.2.2.2⟩⟩, by simp only [intOf]; omega⟩
                 · obtain ⟨y, hy⟩ : ∃ y, wrapS (z * ((m : Int) + 1)) = y := ⟨_, rfl⟩
                   have hyi : InS y := by rw [← hy]; exact wrapS_in _
                   have kpl := fun w => rplus_w y nn w hyi hnnI
                   rw [hy] at HK
                   have HY : Bx (wrapS (z * 10) = y) := ⟨by rw [← hy, show (m : Int) + 1 = 10 by omega]⟩
                   clear hy hyi HC
                   have v0 := HK.out.v0
                   have v1 := HK.out.v1
                   go_wp2_with fail
                   refine (kpl _).mono ?_; rintro e w3 ⟨rfl, h3⟩
                   have HL : Bx (PB w w3 R y) := ⟨HK.out.step h3⟩
                   clear HK h3 v0 v1 kpl
                   have v0 := HL.out.v0
                   have v1 := HL.out.v1
                   have fv := HL.out.fv
                   have olt2 := HL.out.lt
                   go_wp2
                   exact ⟨⟨k + 1, by omega, by rw [Int.natCast_succ], Lib.hid (by rw [HT.out, HY.out]; exact HL.out.put _)⟩, by simp only [intOf]; omega⟩)
        · have hno : ¬ IsDig b := fun h => hdg h
          have HNo := Lib.hid hno
          clear hno
          have hdg' : ¬ (48 ≤ b.toNat) ∨ (48 ≤ b.toNat ∧ ¬ b.toNat ≤ 57) := by omega
          clear hdg
          cases q <;> cases bl <;> rcases hdg' with hd | ⟨hd, hd'⟩
          all_goals
            first
            | exact absurd ⟨rfl, rfl⟩ hcont
            | (clear hcont
               go_wp2_with (go_at_call 51; refine (badnew_x _ _).mono ?_; rintro e w' ⟨rfl, rfl⟩)
               obtain ⟨y0, y1, z0, z1, z2, z3, z4, zb⟩ := HI.out.fin2 0 0 31 #[.int .i64 31, .int .i64 0, .int .i64 0, .bool false, .bool false] 44 _ rfl
               exact bodyPost_ret (results_sumbad rfl _ _ R (R + 1) 0 0 31 rfl rfl y0 y1 z0 z1 z2 z3 z4) rfl ⟨.inr ⟨fun z _ e => HNo.out (by have := HDig.out z e; rw [HBB.out] at this; exact this), rfl⟩, by rw [HR.out]; exact zb⟩)
    · have hdone : ∀ y, InS y → printL y = L → part bl L k = y := fun y hy e => by
        by_cases hlen : L.length ≤ 40
        · rw [show k = L.length by omega]; exact part_done hy e HB.out
        · have := printL_len hy; rw [e] at this; omega
      have HDone : Bx (∀ y, InS y → printL y = L → part bl L k = y) := ⟨hdone⟩
      clear hdone
      have hzi := part_in bl L k
      by_cases hlt : k < L.length
      all_goals
        first
        | (have hlen : ¬ L.length ≤ 40 := fun h => hgo ⟨h, hlt⟩
           clear hgo)
        | (have hge : L.length ≤ k := by omega
           clear hgo)
        have kp := fun w => rprint_any (hZ (part bl L k)) (lZ (part bl L k)) w hzi.w
        rw [sZ_hl] at kp
        have c0 := HI.out.v0
        have c1 := HI.out.v1
        have fv := HI.out.fv
        have olt := HI.out.lt
        go_wp2_with fail
        refine (kp _).mono ?_; rintro e w3 ⟨rfl, h3⟩
        have HL : Bx (PB w w3 R (part bl L k)) := ⟨HI.out.step h3⟩
        clear h3 c0 c1 fv olt kp HI
        generalize part bl L k = z at *
        have a0 := HL.out.a0
        have a1 := HL.out.a1
        have v0 := HL.out.v0
        have v1 := HL.out.v1
        have e0 := HL.out.b0
        have e1 := HL.out.b1
        have e2 := HL.out.b2
        have e3 := HL.out.b3
        have e4 := HL.out.b4
        have fa := HL.out.fa
        have fb := HL.out.fb
        have olt := HL.out.lt
        have olt1 : R + 1 < w3.heap.size := by omega
        have olt0 : R < w3.heap.size := by omega
        unfold strV
        by_cases hpr : printL z = L
        · rw [hpr]
          go_wp2
          obtain ⟨y0, y1, z0, z1, z2, z3, z4, zb⟩ := HL.out.fin (hZ z) (lZ z) 0 _ rfl
          exact bodyPost_ret (results_sumbad rfl _ _ R (R + 1) (hZ z) (lZ z) 0 rfl rfl y0 y1 z0 z1 z2 z3 z4) rfl ⟨.inl ⟨z, hzi, hpr, rfl⟩, by rw [HR.out]; exact zb⟩
        · have hne : (printL z == L) = false := by simpa using hpr
          have hne2 : (printL z != L) = true := by simpa using hpr
          go_wp2_with (go_at_call 51; refine (badnew_x _ _).mono ?_; rintro e w' ⟨rfl, rfl⟩)
          obtain ⟨y0, y1, z0, z1, z2, z3, z4, zb⟩ := HL.out.fin2 0 0 31 #[.int .i64 31, .int .i64 0, .int .i64 0, .bool false, .bool false] 44 _ rfl
          exact bodyPost_ret (results_sumbad rfl _ _ R (R + 1) 0 0 31 rfl rfl y0 y1 z0 z1 z2 z3 z4) rfl ⟨.inr ⟨fun x hx e => hpr (by have := HDone.out x hx e; rw [this]; exact e), rfl⟩, by rw [HR.out]; exact zb⟩
end Go.Proofs.YthlfbakndbjhoaaDoor
