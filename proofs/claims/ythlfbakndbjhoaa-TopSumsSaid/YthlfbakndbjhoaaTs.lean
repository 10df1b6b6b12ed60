/- The walk of the statement TopSums. -/
import Derived.Test.YthlfbakndbjhoaaNumPn
import Derived.Test.YthlfbakndbjhoaaNumBt
import Derived.Deep.AppendSrc
import Derived.Deep.QuietTactic
import Derived.BigQuiet
import Derived.RegionTactic
import Derived.Deep.Cut
import Derived.Lib.QuietBelow
set_option linter.unusedSimpArgs false
set_option linter.unusedVariables false
namespace Go.Proofs.Ythlfbakndbjhoaa
open Go.RowKit
theorem drewB (w : World) : Below w.heap.size w w.drew := ⟨rfl, rfl, rfl, Nat.le_refl _, fun _ _ => rfl⟩
/-- a fact, put away -/
structure Bx (p : Prop) : Prop where
  out : p
def wrapS (x : Int) : Int := (x + 170141183460469231731687303715884105728) % 340282366920938463463374607431768211456 - 170141183460469231731687303715884105728
theorem wrapS_in (x : Int) : InS (wrapS x) := by unfold wrapS; constructor <;> omega
theorem wrapS_of {x : Int} (h : InS x) : wrapS x = x := by obtain ⟨a, b⟩ := h; unfold wrapS; omega
theorem wrapS_words {x : Int} {h l : Int} (e : wrapS x = h * 18446744073709551616 + l) (s : SumW h l) : hZ (wrapS x) = h ∧ lZ (wrapS x) = l := by
  obtain ⟨a, b, c, d⟩ := s
  rw [e]; unfold hZ lZ; omega
theorem plus_w (z n : Int) (w : World) (hz : InS z) (hn : I64 n) :
    Calls Try.prog 5 #[.agg #[.int .i64 (hZ z), .int .u64 (lZ z)], .int .i64 n] w fun e w' => e = .returned (.agg #[.int .i64 (hZ (wrapS (z + n))), .int .u64 (lZ (wrapS (z + n)))]) ∧ Below w.heap.size w w' := by
  have s := hz.w
  obtain ⟨e1, e2⟩ := plus_val (hZ z) (lZ z) n s.h0 s.h1 s.l0 s.l1 hn.lo hn.hi
  have sw : SumW (plusHi (hZ z) (lZ z) n) (plusLo (lZ z) n) := by
    rw [e1, e2]; unfold wrap64; exact ⟨by omega, by omega, by omega, by omega⟩
  have e : wrapS (z + n) = plusHi (hZ z) (lZ z) n * 18446744073709551616 + plusLo (lZ z) n := by
    obtain ⟨z0, z1⟩ := hz
    obtain ⟨n0, n1⟩ := hn
    rw [e1, e2]; unfold wrapS wrap64 hZ lZ; omega
  obtain ⟨g1, g2⟩ := wrapS_words e sw
  rw [g1, g2]
  exact plus_any _ _ n s.l0 s.l1 w
theorem minus_w (z n : Int) (w : World) (hz : InS z) (hn : I64 n) :
    Calls Try.prog 6 #[.agg #[.int .i64 (hZ z), .int .u64 (lZ z)], .int .i64 n] w fun e w' => e = .returned (.agg #[.int .i64 (hZ (wrapS (z - n))), .int .u64 (lZ (wrapS (z - n)))]) ∧ Below w.heap.size w w' := by
  have s := hz.w
  obtain ⟨e1, e2⟩ := minus_val (hZ z) (lZ z) n s.h0 s.h1 s.l0 s.l1 hn.lo hn.hi
  have sw : SumW (minusHi (hZ z) (lZ z) n) (minusLo (lZ z) n) := by
    rw [e1, e2]; unfold wrap64; exact ⟨by omega, by omega, by omega, by omega⟩
  have e : wrapS (z - n) = minusHi (hZ z) (lZ z) n * 18446744073709551616 + minusLo (lZ z) n := by
    obtain ⟨z0, z1⟩ := hz
    obtain ⟨n0, n1⟩ := hn
    rw [e1, e2]; unfold wrapS wrap64 hZ lZ; omega
  obtain ⟨g1, g2⟩ := wrapS_words e sw
  rw [g1, g2]
  exact minus_any _ _ n s.l0 s.l1 w
/-- the number of a list that a turn means -/
def whichZ (t n : Int) : Int := t % n
theorem which_any (t : Int) (n : Nat) (w : World) (ht : I64 t) (hn : 0 < n) (hn1 : n ≤ 9223372036854775807) :
    Calls Try.prog 4 #[.int .i64 t, .int .i64 n] w fun e w' => e = .returned (.int .i64 (t % (n : Int))) ∧ w = w' := by
  obtain ⟨t0, t1⟩ := ht
  have hz : ((n : Int) == 0) = false := by simp; omega
  have hz' : ¬ (n : Int) = 0 := by omega
  have e0 := Int.emod_nonneg t hz'
  have e1 := Int.emod_lt_of_pos t (by omega : (0 : Int) < n)
  obtain ⟨r, hr⟩ : ∃ r, t.tmod n = r := ⟨_, rfl⟩
  have hr2 : r = if 0 ≤ t ∨ t % n = 0 then t % n else t % n - n := by
    rw [← hr]
    rcases Int.lt_or_le t 0 with h | h
    · have e := Int.emod_eq_tmod (a := t) (b := n)
      have ed : ((n : Int) ∣ t) ↔ t % n = 0 := ⟨Int.emod_eq_zero_of_dvd, Int.dvd_of_emod_eq_zero⟩
      by_cases hd : (n : Int) ∣ t
      · rw [if_pos (.inr (ed.1 hd))]
        rw [if_pos (.inr hd)] at e
        omega
      · rw [if_neg (by rintro (a | a); omega; exact hd (ed.2 a))]
        rw [if_neg (by rintro (a | a); omega; exact hd a)] at e
        omega
    · rw [if_pos (.inl h), Int.tmod_eq_emod_of_nonneg h]
  obtain ⟨q, hq⟩ : ∃ q, t % (n : Int) = q := ⟨_, rfl⟩
  rw [hq] at hr2 e0 e1 ⊢
  clear hq
  by_cases hc : r < 0
  · have e : r + n = q := by split at hr2 <;> omega
    clear hr2
    go_enter Try.func4, Try.ntmps4
    go_wp2
    go_ret
    exact ⟨rfl, rfl⟩
  · have e : r = q := by split at hr2 <;> omega
    subst e
    clear hr2
    go_enter Try.func4, Try.ntmps4
    go_wp2
    go_ret
    exact ⟨rfl, rfl⟩
/-- the sum of the first n -/
abbrev tot (f : Nat → Int) (n : Nat) : Int := sumIf (fun _ => true) f n
theorem tot_upd (g : Nat → Int) (i : Nat) (v : Int) : ∀ {n : Nat}, i < n → tot (fun x => if x = i then v else g x) n = tot g n - g i + v
  | 0, h => by omega
  | n + 1, h => by
    simp only [tot, sumIf, if_true]
    by_cases hi : i = n
    · subst hi
      have e : sumIf (fun _ => true) (fun x => if x = i then v else g x) i = sumIf (fun _ => true) g i := by
        have : ∀ m, m ≤ i → sumIf (fun _ => true) (fun x => if x = i then v else g x) m = sumIf (fun _ => true) g m := by
          intro m
          induction m with
          | zero => intro _; rfl
          | succ m ih => intro hm; simp only [sumIf, if_true]; rw [ih (by omega), if_neg (by omega)]
        exact this i (Nat.le_refl _)
      rw [e]
      simp
    · have ih := tot_upd g i v (n := n) (by omega)
      simp only [tot] at ih
      rw [ih, if_neg (by omega)]
      omega
/-- two places changed -/
def swp (g : Nat → Int) (i k : Nat) : Nat → Int := fun x => if x = k then g i else if x = i then g k else g x
theorem tot_swp (g : Nat → Int) {i k n : Nat} (hi : i < n) (hk : k < n) : tot (swp g i k) n = tot g n := by
  unfold swp
  have e : (fun x => if x = k then g i else if x = i then g k else g x) = (fun x => if x = k then g i else (fun x => if x = i then g k else g x) x) := rfl
  rw [e, tot_upd _ k (g i) hk, tot_upd _ i (g k) hi]
  by_cases h : k = i
  · subst h; simp
  · simp only [h, if_false]; omega
theorem swp_i64 {g : Nat → Int} {i k n : Nat} (h : ∀ x, x < n → I64 (g x)) (hi : i < n) (hk : k < n) : ∀ x, x < n → I64 (swp g i k x) := by
  intro x hx
  unfold swp
  split
  · exact h i hi
  · split
    · exact h k hk
    · exact h x hx
theorem tot_between {f : Nat → Int} {L G : Int} : ∀ {n : Nat}, (∀ i, i < n → L ≤ f i ∧ f i ≤ G) → (n : Int) * L ≤ tot f n ∧ tot f n ≤ (n : Int) * G
  | 0, _ => by simp [tot, sumIf]
  | n + 1, h => by
    obtain ⟨a, b⟩ := tot_between (n := n) (fun i hi => h i (by omega))
    obtain ⟨c, d⟩ := h n (by omega)
    simp only [tot, sumIf, if_true] at *
    rw [Int.natCast_succ, Int.add_mul, Int.add_mul]
    constructor <;> omega
theorem wrapS_plus (a b : Int) : wrapS (wrapS a + b) = wrapS (a + b) := by unfold wrapS; omega
theorem wrapS_minus (a b : Int) : wrapS (wrapS a - b) = wrapS (a - b) := by unfold wrapS; omega
/-- the world of the first part: the sum's box S, the copy's row M -/
structure T1 (w0 w : World) (S M n : Nat) (s : Int) (mf : Nat → Int) : Prop where
  below : Below w0.heap.size w0 w
  old : w0.heap.size ≤ S
  sm : S < M
  lt : M < w.heap.size
  s0 : w.cell? ⟨S, 0, none⟩ = some (.int .i64 (hZ s))
  s1 : w.cell? ⟨S, 1, none⟩ = some (.int .u64 (lZ s))
  row : ∀ i, i < n → w.cell? ⟨M, i, none⟩ = some (.int .i64 (mf i))
  f : ∀ i, w.frozen? ⟨M, i, none⟩ = false
theorem T1.step {w0 w w' : World} {S M n : Nat} {s : Int} {mf : Nat → Int} (g : T1 w0 w S M n s mf) (hb : Below w.heap.size w w') : T1 w0 w' S M n s mf := by
  have h1 := g.lt
  have h2 := g.sm
  exact {
    below := g.below.trans (hb.mono g.below.size)
    old := g.old
    sm := g.sm
    lt := Nat.lt_of_lt_of_le g.lt hb.size
    s0 := by rw [hb.cell (p := ⟨S, 0, none⟩) (by show S < _; omega)]; exact g.s0
    s1 := by rw [hb.cell (p := ⟨S, 1, none⟩) (by show S < _; omega)]; exact g.s1
    row := fun i hi => by rw [hb.cell (p := ⟨M, i, none⟩) h1]; exact g.row i hi
    f := fun i => by rw [hb.frozen (p := ⟨M, i, none⟩) h1]; exact g.f i }
/-- and of the second: the three sums' boxes -/
structure T2 (w0 w : World) (S M A B C n : Nat) (s : Int) (mf : Nat → Int) (za zb zt : Int) : Prop where
  t : T1 w0 w S M n s mf
  ma : M < A
  mb : M < B
  mc : M < C
  ab : A ≠ B
  ac : A ≠ C
  bc : B ≠ C
  la : A < w.heap.size
  lb : B < w.heap.size
  lc : C < w.heap.size
  a0 : w.cell? ⟨A, 0, none⟩ = some (.int .i64 (hZ za))
  a1 : w.cell? ⟨A, 1, none⟩ = some (.int .u64 (lZ za))
  b0 : w.cell? ⟨B, 0, none⟩ = some (.int .i64 (hZ zb))
  b1 : w.cell? ⟨B, 1, none⟩ = some (.int .u64 (lZ zb))
  c0 : w.cell? ⟨C, 0, none⟩ = some (.int .i64 (hZ zt))
  c1 : w.cell? ⟨C, 1, none⟩ = some (.int .u64 (lZ zt))
  fa : ∀ i, w.frozen? ⟨A, i, none⟩ = false
  fb : ∀ i, w.frozen? ⟨B, i, none⟩ = false
  fc : ∀ i, w.frozen? ⟨C, i, none⟩ = false
theorem T2.step {w0 w w' : World} {S M A B C n : Nat} {s : Int} {mf : Nat → Int} {za zb zt : Int} (g : T2 w0 w S M A B C n s mf za zb zt) (hb : Below w.heap.size w w') : T2 w0 w' S M A B C n s mf za zb zt where
  t := g.t.step hb
  ma := g.ma
  mb := g.mb
  mc := g.mc
  ab := g.ab
  ac := g.ac
  bc := g.bc
  la := Nat.lt_of_lt_of_le g.la hb.size
  lb := Nat.lt_of_lt_of_le g.lb hb.size
  lc := Nat.lt_of_lt_of_le g.lc hb.size
  a0 := by rw [hb.cell (p := ⟨A, 0, none⟩) g.la]; exact g.a0
  a1 := by rw [hb.cell (p := ⟨A, 1, none⟩) g.la]; exact g.a1
  b0 := by rw [hb.cell (p := ⟨B, 0, none⟩) g.lb]; exact g.b0
  b1 := by rw [hb.cell (p := ⟨B, 1, none⟩) g.lb]; exact g.b1
  c0 := by rw [hb.cell (p := ⟨C, 0, none⟩) g.lc]; exact g.c0
  c1 := by rw [hb.cell (p := ⟨C, 1, none⟩) g.lc]; exact g.c1
  fa := fun i => by rw [hb.frozen (p := ⟨A, i, none⟩) g.la]; exact g.fa i
  fb := fun i => by rw [hb.frozen (p := ⟨B, i, none⟩) g.lb]; exact g.fb i
  fc := fun i => by rw [hb.frozen (p := ⟨C, i, none⟩) g.lc]; exact g.fc i
theorem frozen_new3 (w : World) (a b c : Array Value) (T T' T'' : Nat) {k i : Nat} (h : w.heap.size ≤ k) : (((w.alloc (.cells a T)).alloc (.cells b T')).alloc (.cells c T'')).frozen? ⟨k, i, none⟩ = false := by
  rw [frozen?_alloc_cells, frozen?_alloc_cells, frozen?_alloc_cells]
  have e : w.heap[k]? = none := Array.getElem?_eq_none h
  unfold World.frozen?
  simp [e]
/-- three new boxes, whichever of them is which -/
theorem T2.made {w0 w : World} {S M n : Nat} {s : Int} {mf : Nat → Int} (g : T1 w0 w S M n s mf) (T : Nat) (za zb zt u0 v0 u1 v1 u2 v2 : Int) (A B C : Nat)
    (h : (A = w.heap.size ∧ u0 = hZ za ∧ v0 = lZ za ∨ A = w.heap.size + 1 ∧ u1 = hZ za ∧ v1 = lZ za ∨ A = w.heap.size + 1 + 1 ∧ u2 = hZ za ∧ v2 = lZ za) ∧ (B = w.heap.size ∧ u0 = hZ zb ∧ v0 = lZ zb ∨ B = w.heap.size + 1 ∧ u1 = hZ zb ∧ v1 = lZ zb ∨ B = w.heap.size + 1 + 1 ∧ u2 = hZ zb ∧ v2 = lZ zb) ∧ (C = w.heap.size ∧ u0 = hZ zt ∧ v0 = lZ zt ∨ C = w.heap.size + 1 ∧ u1 = hZ zt ∧ v1 = lZ zt ∨ C = w.heap.size + 1 + 1 ∧ u2 = hZ zt ∧ v2 = lZ zt)) (h1 : A ≠ B) (h2 : A ≠ C) (h3 : B ≠ C) :
    T2 w0 ((((w.alloc (.cells #[.int .i64 u0, .int .u64 v0] T)).alloc (.cells #[.int .i64 u1, .int .u64 v1] T)).alloc (.cells #[.int .i64 u2, .int .u64 v2] T)).drew) S M A B C n s mf za zb zt := by
  have hc : ∀ X z, (X = w.heap.size ∧ u0 = hZ z ∧ v0 = lZ z ∨ X = w.heap.size + 1 ∧ u1 = hZ z ∧ v1 = lZ z ∨ X = w.heap.size + 1 + 1 ∧ u2 = hZ z ∧ v2 = lZ z) →
      ((((w.alloc (.cells #[.int .i64 u0, .int .u64 v0] T)).alloc (.cells #[.int .i64 u1, .int .u64 v1] T)).alloc (.cells #[.int .i64 u2, .int .u64 v2] T)).drew).cell? ⟨X, 0, none⟩ = some (.int .i64 (hZ z)) ∧
      ((((w.alloc (.cells #[.int .i64 u0, .int .u64 v0] T)).alloc (.cells #[.int .i64 u1, .int .u64 v1] T)).alloc (.cells #[.int .i64 u2, .int .u64 v2] T)).drew).cell? ⟨X, 1, none⟩ = some (.int .u64 (lZ z)) := by
    intro X z hx
    show (((w.alloc (.cells #[.int .i64 u0, .int .u64 v0] T)).alloc (.cells #[.int .i64 u1, .int .u64 v1] T)).alloc (.cells #[.int .i64 u2, .int .u64 v2] T)).cell? ⟨X, 0, none⟩ = some (.int .i64 (hZ z)) ∧ (((w.alloc (.cells #[.int .i64 u0, .int .u64 v0] T)).alloc (.cells #[.int .i64 u1, .int .u64 v1] T)).alloc (.cells #[.int .i64 u2, .int .u64 v2] T)).cell? ⟨X, 1, none⟩ = some (.int .u64 (lZ z))
    rcases hx with ⟨rfl, h1, h2⟩ | ⟨rfl, h1, h2⟩ | ⟨rfl, h1, h2⟩ <;> rw [← h1, ← h2]
    · constructor <;> (rw [World.cell?_alloc_lt _ _ _ (by simp only [heap_push, Array.size_push]; omega), World.cell?_alloc_lt _ _ _ (by simp only [heap_push, Array.size_push]; omega), World.cell?_alloc_at _ _ _ _ rfl]; rfl)
    · constructor <;> (rw [World.cell?_alloc_lt _ _ _ (by simp only [heap_push, Array.size_push]; omega), World.cell?_alloc_at _ _ _ _ (by simp only [heap_push, Array.size_push])]; rfl)
    · constructor <;> (rw [World.cell?_alloc_at _ _ _ _ (by simp only [heap_push, Array.size_push])]; rfl)
  have hf : ∀ X, w.heap.size ≤ X → ∀ i, ((((w.alloc (.cells #[.int .i64 u0, .int .u64 v0] T)).alloc (.cells #[.int .i64 u1, .int .u64 v1] T)).alloc (.cells #[.int .i64 u2, .int .u64 v2] T)).drew).frozen? ⟨X, i, none⟩ = false := fun X hX i => frozen_new3 w _ _ _ _ _ _ hX
  have hl := g.lt
  have hz : ((((w.alloc (.cells #[.int .i64 u0, .int .u64 v0] T)).alloc (.cells #[.int .i64 u1, .int .u64 v1] T)).alloc (.cells #[.int .i64 u2, .int .u64 v2] T)).drew).heap.size = w.heap.size + 1 + 1 + 1 := by
    show (((w.alloc _).alloc _).alloc _).heap.size = _
    simp only [heap_push, Array.size_push]
  obtain ⟨ha, hb, hcc⟩ := h
  exact {
    t := (g.step (below3 _ _ _ _)).step (drewB _)
    ma := by omega
    mb := by omega
    mc := by omega
    ab := h1
    ac := h2
    bc := h3
    la := by rw [hz]; omega
    lb := by rw [hz]; omega
    lc := by rw [hz]; omega
    a0 := (hc A za ha).1
    a1 := (hc A za ha).2
    b0 := (hc B zb hb).1
    b1 := (hc B zb hb).2
    c0 := (hc C zt hcc).1
    c1 := (hc C zt hcc).2
    fa := hf A (by omega)
    fb := hf B (by omega)
    fc := hf C (by omega) }
theorem cell_set_b {w : World} {B B' i j : Nat} {u v : Value} (h : w.cell? ⟨B', j, none⟩ = some v) (hB : B ≠ B') : (w.setCell ⟨B, i, none⟩ u).cell? ⟨B', j, none⟩ = some v := by
  rw [World.cell?_setCell_other]; exact h
  intro e; injection e; omega
theorem T1.other {w0 w : World} {S M n : Nat} {s : Int} {mf : Nat → Int} (g : T1 w0 w S M n s mf) {B i : Nat} {u : Value} (h0 : w0.heap.size ≤ B) (h1 : B ≠ S) (h2 : B ≠ M) : T1 w0 (w.setCell ⟨B, i, none⟩ u) S M n s mf where
  below := g.below.setCell (p := ⟨B, i, none⟩) h0 _
  old := g.old
  sm := g.sm
  lt := by simp only [size_set]; exact g.lt
  s0 := cell_set_b g.s0 h1
  s1 := cell_set_b g.s1 h1
  row := fun j hj => cell_set_b (g.row j hj) h2
  f := fun j => by simp only [frozen_set]; exact g.f j
theorem T1.put {w0 w : World} {S M n : Nat} {s : Int} {mf : Nat → Int} (g : T1 w0 w S M n s mf) {i : Nat} (v : Int) (hi : i < n) : T1 w0 (w.setCell ⟨M, i, none⟩ (.int .i64 v)) S M n s (fun x => if x = i then v else mf x) where
  below := g.below.setCell (p := ⟨M, i, none⟩) (by have := g.old; have := g.sm; show _ ≤ M; omega) _
  old := g.old
  sm := g.sm
  lt := by simp only [size_set]; exact g.lt
  s0 := cell_set_b g.s0 (by have := g.sm; omega)
  s1 := cell_set_b g.s1 (by have := g.sm; omega)
  row := fun j hj => by
    by_cases h : j = i
    · subst h; rw [if_pos rfl]; exact cell_set_eq (g.row j hj)
    · rw [if_neg h]; exact cell_set_ne (g.row j hj) (fun e => h e.symm)
  f := fun j => by simp only [frozen_set]; exact g.f j
theorem T2.setA {w0 w : World} {S M A B C n : Nat} {s : Int} {mf : Nat → Int} {za zb zt : Int} (g : T2 w0 w S M A B C n s mf za zb zt) (x : Int) : T2 w0 ((w.setCell ⟨A, 0, none⟩ (.int .i64 (hZ x))).setCell ⟨A, 1, none⟩ (.int .u64 (lZ x))) S M A B C n s mf x zb zt := by
  have h1 := g.ma
  have h2 := g.t.sm
  have h3 := g.t.old
  have hab := g.ab
  have hac := g.ac
  have hbc := g.bc
  exact {
    t := (g.t.other (by omega) (by omega) (by omega)).other (by omega) (by omega) (by omega)
    ma := g.ma
    mb := g.mb
    mc := g.mc
    ab := g.ab
    ac := g.ac
    bc := g.bc
    la := by simp only [size_set]; exact g.la
    lb := by simp only [size_set]; exact g.lb
    lc := by simp only [size_set]; exact g.lc
    a0 := cell_set_ne (cell_set_eq g.a0) (by omega)
    a1 := cell_set_eq (cell_set_ne g.a1 (by omega))
    b0 := cell_set_b (cell_set_b g.b0 (by omega)) (by omega)
    b1 := cell_set_b (cell_set_b g.b1 (by omega)) (by omega)
    c0 := cell_set_b (cell_set_b g.c0 (by omega)) (by omega)
    c1 := cell_set_b (cell_set_b g.c1 (by omega)) (by omega)
    fa := fun i => by simp only [frozen_set]; exact g.fa i
    fb := fun i => by simp only [frozen_set]; exact g.fb i
    fc := fun i => by simp only [frozen_set]; exact g.fc i }
theorem T2.setB {w0 w : World} {S M A B C n : Nat} {s : Int} {mf : Nat → Int} {za zb zt : Int} (g : T2 w0 w S M A B C n s mf za zb zt) (x : Int) : T2 w0 ((w.setCell ⟨B, 0, none⟩ (.int .i64 (hZ x))).setCell ⟨B, 1, none⟩ (.int .u64 (lZ x))) S M A B C n s mf za x zt := by
  have h1 := g.mb
  have h2 := g.t.sm
  have h3 := g.t.old
  have hab := g.ab
  have hac := g.ac
  have hbc := g.bc
  exact {
    t := (g.t.other (by omega) (by omega) (by omega)).other (by omega) (by omega) (by omega)
    ma := g.ma
    mb := g.mb
    mc := g.mc
    ab := g.ab
    ac := g.ac
    bc := g.bc
    la := by simp only [size_set]; exact g.la
    lb := by simp only [size_set]; exact g.lb
    lc := by simp only [size_set]; exact g.lc
    a0 := cell_set_b (cell_set_b g.a0 (by omega)) (by omega)
    a1 := cell_set_b (cell_set_b g.a1 (by omega)) (by omega)
    b0 := cell_set_ne (cell_set_eq g.b0) (by omega)
    b1 := cell_set_eq (cell_set_ne g.b1 (by omega))
    c0 := cell_set_b (cell_set_b g.c0 (by omega)) (by omega)
    c1 := cell_set_b (cell_set_b g.c1 (by omega)) (by omega)
    fa := fun i => by simp only [frozen_set]; exact g.fa i
    fb := fun i => by simp only [frozen_set]; exact g.fb i
    fc := fun i => by simp only [frozen_set]; exact g.fc i }
theorem T2.setC {w0 w : World} {S M A B C n : Nat} {s : Int} {mf : Nat → Int} {za zb zt : Int} (g : T2 w0 w S M A B C n s mf za zb zt) (x : Int) : T2 w0 ((w.setCell ⟨C, 0, none⟩ (.int .i64 (hZ x))).setCell ⟨C, 1, none⟩ (.int .u64 (lZ x))) S M A B C n s mf za zb x := by
  have h1 := g.mc
  have h2 := g.t.sm
  have h3 := g.t.old
  have hab := g.ab
  have hac := g.ac
  have hbc := g.bc
  exact {
    t := (g.t.other (by omega) (by omega) (by omega)).other (by omega) (by omega) (by omega)
    ma := g.ma
    mb := g.mb
    mc := g.mc
    ab := g.ab
    ac := g.ac
    bc := g.bc
    la := by simp only [size_set]; exact g.la
    lb := by simp only [size_set]; exact g.lb
    lc := by simp only [size_set]; exact g.lc
    a0 := cell_set_b (cell_set_b g.a0 (by omega)) (by omega)
    a1 := cell_set_b (cell_set_b g.a1 (by omega)) (by omega)
    b0 := cell_set_b (cell_set_b g.b0 (by omega)) (by omega)
    b1 := cell_set_b (cell_set_b g.b1 (by omega)) (by omega)
    c0 := cell_set_ne (cell_set_eq g.c0) (by omega)
    c1 := cell_set_eq (cell_set_ne g.c1 (by omega))
    fa := fun i => by simp only [frozen_set]; exact g.fa i
    fb := fun i => by simp only [frozen_set]; exact g.fb i
    fc := fun i => by simp only [frozen_set]; exact g.fc i }
theorem T1.made {w W1 w' : World} {n : Nat} {g : Nat} {cur : Array Value} {T : Nat} {h l : Int} {f : Nat → Int} (hW : Below w.heap.size w W1) (hs0 : W1.cell? ⟨w.heap.size, 0, none⟩ = some (.int .i64 h)) (hs1 : W1.cell? ⟨w.heap.size, 1, none⟩ = some (.int .u64 l))
    (hg : w'.heap[g]? = some (.cells cur T (0, 0))) (hbase : w.heap.size + 1 ≤ g) (htake : cur.toList.take n = (List.range n).map (fun i => Value.int .i64 (f i))) (hgr : W1.grownBy w' (some (w.heap.size + 1))) (hs : SumW h l) :
    T1 w w' w.heap.size g n (sZ h l) f := by
  have hlt : g < w'.heap.size := by
    rcases Nat.lt_or_ge g w'.heap.size with h | h
    · exact h
    · rw [Array.getElem?_eq_none h] at hg; cases hg
  obtain ⟨e0, e1⟩ := hl_of hs
  exact {
    below := hW.trans (below_of_grown hgr (by omega) hW.size)
    old := Nat.le_refl _
    sm := by omega
    lt := hlt
    s0 := by rw [e0]; exact hgr.cell hs0 (by simp)
    s1 := by rw [e1]; exact hgr.cell hs1 (by simp)
    row := fun i hi => by
      have e : cur.toList[i]? = some (.int .i64 (f i)) := by
        have := congrArg (fun x => x[i]?) htake
        simp only [List.getElem?_take, hi, if_true, List.getElem?_map, List.getElem?_range hi, Option.map_some] at this
        exact this
      simp only [World.cell?, hg]
      rw [← Array.getElem?_toList]
      simpa using e
    f := fun i => by simp [World.frozen?, hg] }
set_option maxHeartbeats 4000000 in
set_option maxRecDepth 100000 in
theorem sums_pos (b off n cap m cap2 : Nat) (A2 : Option Addr) (h l : Int) (f g : Nat → Int) (w : World) (hs : SumW h l) (hn : 0 < n) (hmax : n ≤ 17592186044416) (hmax2 : m ≤ 9223372036854775807)
    (hr : RowI w b off n f) (hz : ∀ i, i < n → I64 (f i))
    (hr2 : 0 < m → ∃ b off, A2 = some ⟨b, off, none⟩ ∧ RowI w b off m g) (hz2 : ∀ i, i < m → I64 (g i)) :
    Calls Try.prog 3 #[.agg #[.int .i64 h, .int .u64 l], .slice (some ⟨b, off, none⟩) n cap, .slice A2 m cap2] w fun e w' => e = .returned (.bool true) ∧ Below w.heap.size w w' := by
  have HR : Bx _ := ⟨hr⟩
  have HR2 : Bx _ := ⟨hr2⟩
  have HZ : Bx _ := ⟨hz⟩
  have HZ2 : Bx _ := ⟨hz2⟩
  have HS : Bx _ := ⟨hs⟩
  have hbw := cell_lt (hr 0 hn)
  obtain ⟨i0, hi, hiz, hi1, hi2⟩ := info_parts (show (Try.prog.info? 2).map (fun i => (i.zero, i.size, i.bytes)) = some (some (.int .i64 0), 1, 8) by kernel_rfl)
  have hW : Below w.heap.size w ((w.alloc (.cells #[.int .i64 h, .int .u64 l] 24)).alloc (.cells #[] 2)) := below2 _ _ _
  have hown0 : ((w.alloc (.cells #[.int .i64 h, .int .u64 l] 24)).alloc (.cells #[] 2)).ownsRow (w.heap.size + 1) 2 1 (.slice (some ⟨(w.alloc (.cells #[.int .i64 h, .int .u64 l] 24)).heap.size, 0, none⟩) 0 0) 0 [] := World.ownsRow_made _ #[] 0 (by simp) (by unfold maxLen; omega) rfl
  rw [show (w.alloc (.cells #[.int .i64 h, .int .u64 l] 24)).heap.size = w.heap.size + 1 by simp] at hown0
  have hnews : ∀ j u, ((List.range n).map (fun i => Value.int .i64 (f i)))[j]? = some u → ((w.alloc (.cells #[.int .i64 h, .int .u64 l] 24)).alloc (.cells #[] 2)).cell? ((⟨b, off, none⟩ : Addr).add j) = some u := fun j u hj => by
    have hjn : j < n := by have := (List.getElem?_eq_some_iff.1 hj).1; simpa using this
    simp only [List.getElem?_map, List.getElem?_range hjn, Option.map_some, Option.some.injEq] at hj
    subst hj
    have e : (⟨b, off, none⟩ : Addr).add j = ⟨b, off + j, none⟩ := by simp [Addr.add]
    rw [e, hW.cell (p := ⟨b, off + j, none⟩) hbw]
    exact hr j hjn
  have hone : ∀ u ∈ (List.range n).map (fun i => Value.int .i64 (f i)), u.oneCell' = true := fun u hu => by
    simp only [List.mem_map] at hu
    obtain ⟨x, _, rfl⟩ := hu
    rfl
  have hmade : ∀ v' w', w'.ownsRow (w.heap.size + 1) 2 1 v' (0 + n) ([] ++ (List.range n).map (fun i => Value.int .i64 (f i))) → ((w.alloc (.cells #[.int .i64 h, .int .u64 l] 24)).alloc (.cells #[] 2)).grownBy w' (some (w.heap.size + 1)) → ∃ M capm, v' = .slice (some ⟨M, 0, none⟩) n capm ∧ T1 w w' w.heap.size M n (sZ h l) f := by
    intro v' w' hown hgr
    obtain ⟨hlen, h1 | ⟨M, capm, cur, rfl, hb, hg, hnc, hcm, hcs, htk⟩⟩ := hown
    · omega
    · exact ⟨M, capm, by simp, T1.made hW (by rw [World.cell?_alloc_lt _ _ _ (by simp only [heap_push, Array.size_push]; omega), World.cell?_alloc_at _ _ _ _ rfl]; rfl) (by rw [World.cell?_alloc_lt _ _ _ (by simp only [heap_push, Array.size_push]; omega), World.cell?_alloc_at _ _ _ _ rfl]; rfl) hg hb (by simpa using htk) hgr hs⟩
  have HM : Bx _ := ⟨hmade⟩
  have HN : Bx _ := ⟨hnews⟩
  have HO : Bx _ := ⟨hone⟩
  have HW0 : Bx _ := ⟨hown0⟩
  have HI0 : Bx (Try.prog.info? 2 = some i0 ∧ i0.zero = some (.int .i64 0) ∧ i0.size = 1 ∧ i0.bytes = 8) := ⟨hi, hiz, hi1, hi2⟩
  clear hmade hnews hone hown0 hi hiz hi1 hi2 hr hr2 hz hz2 hs hW
  go_enter Try.func3, Try.ntmps3
  go_wp2_with (at_builtin; refine wpList_append_own _ rfl _ _ 25 rfl (w.heap.size + 1) 2 i0 (.int .i64 0) 1 8 Try.underlying25 HI0.out.1 HI0.out.2.1 HI0.out.2.2.1 HI0.out.2.2.2 rfl (by decide) _ _ _ rfl HW0.out ⟨b, off, none⟩ n cap ((List.range n).map (fun i => Value.int .i64 (f i))) rfl (by simp) HN.out HO.out (by unfold maxLen; omega) (by omega) (by simp) ?_; intro v' w' hown' hgr' _)
  obtain ⟨M, capm, rfl, hI⟩ := HM.out _ _ hown' hgr'
  have HI : Bx _ := ⟨hI⟩
  clear hI hown' hgr' HM HN HO HW0 HI0
  generalize hSz : w.heap.size = S at *
  have HSz : Bx (w.heap.size = S) := ⟨hSz⟩
  clear hSz
  go_wp2_with fail
  go_loopw [8] (fun i wr => ∃ (k : Nat) (mf : Nat → Int), k ≤ m ∧ i = .int .i64 k ∧ Bx (T1 w wr S M n (sZ h l) mf) ∧ Bx (tot mf n = tot f n ∧ ∀ x, x < n → I64 (mf x))) (fun i _ => m - (intOf i).toNat)
  case atStart => exact ⟨0, f, Nat.zero_le _, rfl, HI, ⟨rfl, HZ.out⟩⟩
  case round =>
    obtain ⟨k, mf, hk, rfl, HI, HT⟩ := hrel
    by_cases hlt : k < m
    · obtain ⟨b2, off2, rfl, hrow⟩ := HR2.out (by omega)
      have hb := cell_lt (hrow k hlt)
      have hc' : wr.cell? ⟨b2, off2 + k, none⟩ = some (.int .i64 (g k)) := by rw [HI.out.below.cell (p := ⟨b2, off2 + k, none⟩) hb]; exact hrow k hlt
      have kw := fun w => which_any (g k) n w (HZ2.out k hlt) hn (by omega)
      have hq0 := Int.emod_nonneg (g k) (show (n : Int) ≠ 0 by omega)
      have hq1 := Int.emod_lt_of_pos (g k) (show (0 : Int) < n by omega)
      obtain ⟨q, hq⟩ : ∃ q : Nat, g k % (n : Int) = q := ⟨(g k % (n : Int)).toNat, by omega⟩
      rw [hq] at kw hq0 hq1
      have hqn : q < n := by omega
      clear hq hq0 hq1
      generalize g k = gk at *
      clear hrow
      go_wp2_with fail
      refine (kw _).mono ?_; rintro e w2 ⟨rfl, rfl⟩
      have m0 := HI.out.row 0 hn
      have mq := HI.out.row q hqn
      have mfz := HI.out.f
      clear hc' kw
      go_wp2_with fail
      obtain ⟨v1, hv1⟩ := cell?_setCell_some (w := wr) (p := ⟨M, 0, none⟩) (x := .int .i64 (mf q)) (q := ⟨M, q, none⟩) (v := .int .i64 (mf q)) mq
      go_region
      all_goals go_wp2_with fail
      exact ⟨⟨k + 1, swp mf 0 q, by omega, by rw [Int.natCast_succ], ⟨((HI.out.put (mf q) hn).put (mf 0) hqn).step (drewB _)⟩, ⟨by rw [tot_swp mf hn hqn]; exact HT.out.1, swp_i64 HT.out.2 hn hqn⟩⟩, by simp only [intOf]; omega⟩
    · clear HR2 HZ2
      have s0 := HI.out.s0
      have s1 := HI.out.s1
      have slt : S < wr.heap.size := cell_lt s0
      have sa1 : ∀ o, (wr.alloc o).cell? ⟨S, 0, none⟩ = some (.int .i64 (hZ (sZ h l))) := fun o => by rw [World.cell?_alloc_lt _ _ _ slt]; exact s0
      have sb1 : ∀ o, (wr.alloc o).cell? ⟨S, 1, none⟩ = some (.int .u64 (lZ (sZ h l))) := fun o => by rw [World.cell?_alloc_lt _ _ _ slt]; exact s1
      have sa2 : ∀ o o', ((wr.alloc o).alloc o').cell? ⟨S, 0, none⟩ = some (.int .i64 (hZ (sZ h l))) := fun o o' => by rw [World.cell?_alloc_lt _ _ _ (by simp only [heap_push, Array.size_push]; omega)]; exact sa1 o
      have sb2 : ∀ o o', ((wr.alloc o).alloc o').cell? ⟨S, 1, none⟩ = some (.int .u64 (lZ (sZ h l))) := fun o o' => by rw [World.cell?_alloc_lt _ _ _ (by simp only [heap_push, Array.size_push]; omega)]; exact sb1 o
      have sa3 : ∀ o o' o'', (((wr.alloc o).alloc o').alloc o'').cell? ⟨S, 0, none⟩ = some (.int .i64 (hZ (sZ h l))) := fun o o' o'' => by rw [World.cell?_alloc_lt _ _ _ (by simp only [heap_push, Array.size_push]; omega)]; exact sa2 o o'
      have sb3 : ∀ o o' o'', (((wr.alloc o).alloc o').alloc o'').cell? ⟨S, 1, none⟩ = some (.int .u64 (lZ (sZ h l))) := fun o o' o'' => by rw [World.cell?_alloc_lt _ _ _ (by simp only [heap_push, Array.size_push]; omega)]; exact sb2 o o'
      go_upto_region 7 with (fail)
      go_cut [10, 11, 12] from 53 (fun a b c wx => ∃ A B C : Nat, a = .pointer (some ⟨A, 0, none⟩) ∧ b = .pointer (some ⟨B, 0, none⟩) ∧ c = .pointer (some ⟨C, 0, none⟩) ∧ Bx (T2 w wx S M A B C n (sZ h l) mf (sZ h l) (sZ h l) 0))
      case first =>
        go_region
        all_goals (go_wp2_with fail; go_meet; exact ⟨_, _, _, rfl, rfl, rfl, ⟨T2.made HI.out _ _ _ _ _ _ _ _ _ _ _ _ _ (by simp [hZ_zero, lZ_zero]) (by omega) (by omega) (by omega)⟩⟩)
      case rest =>
        obtain ⟨A, B, C, rfl, rfl, rfl, HJ⟩ := hcut
        clear sa1 sb1 sa2 sb2 sa3 sb3 s0 s1 slt HI
        go_wp2_with fail
        have hsi := inS_of HS.out
        generalize hs0 : sZ h l = s at *
        have HJ0 : Bx (T2 w wc S M A B C n s mf (wrapS (s + tot f 0)) (wrapS (s + tot mf 0)) (tot f 0)) := ⟨by
          have e : s + tot f 0 = s := by simp [tot, sumIf]
          have e2 : s + tot mf 0 = s := by simp [tot, sumIf]
          have e3 : tot f 0 = 0 := rfl
          rw [e, e2, e3, wrapS_of hsi]; exact HJ.out⟩
        clear HJ
        have HSI : Bx (InS s) := ⟨hsi⟩
        have HS0 : Bx (sZ h l = s) := ⟨hs0⟩
        clear hsi hs0
        go_loopw [13] (fun i wr => ∃ k : Nat, k ≤ n ∧ i = .int .i64 k ∧ Bx (T2 w wr S M A B C n s mf (wrapS (s + tot f k)) (wrapS (s + tot mf k)) (tot f k))) (fun i _ => n - (intOf i).toNat)
        case atStart => exact ⟨0, Nat.zero_le _, rfl, HJ0⟩
        case round =>
          obtain ⟨j, hj, rfl, HK⟩ := hrel
          clear HJ0
          by_cases hjn : j < n
          · have hxf := HZ.out j hjn
            have hxm := HT.out.2 j hjn
            have i0 : InS (tot f j) := sumIf_in (by omega) (fun i hi => HZ.out i (by omega))
            have e1 : tot f (j + 1) = tot f j + f j := by simp [tot, sumIf]
            have e2 : tot mf (j + 1) = tot mf j + mf j := by simp [tot, sumIf]
            have i1 : InS (tot f (j + 1)) := sumIf_in (by omega) (fun i hi => HZ.out i (by omega))
            have p1 := fun w => plus_w (wrapS (s + tot f j)) (f j) w (wrapS_in _) hxf
            have p2 := fun w => plus_w (wrapS (s + tot mf j)) (mf j) w (wrapS_in _) hxm
            have p3 := fun w => plus_z (tot f j) (f j) i0 hxf (by rw [← e1]; exact i1) w
            rw [wrapS_plus, show s + tot f j + f j = s + tot f (j + 1) by omega] at p1
            rw [wrapS_plus, show s + tot mf j + mf j = s + tot mf (j + 1) by omega] at p2
            rw [← e1] at p3
            clear i0 i1 e1 e2 hxf hxm
            obtain ⟨x, hx⟩ : ∃ x, f j = x := ⟨_, rfl⟩
            obtain ⟨y, hy⟩ : ∃ y, mf j = y := ⟨_, rfl⟩
            rw [hx] at p1 p3
            rw [hy] at p2
            have HX : Bx (f j = x ∧ mf j = y) := ⟨hx, hy⟩
            clear hx hy
            generalize hza : wrapS (s + tot f j) = za at *
            generalize hza' : wrapS (s + tot f (j + 1)) = za' at *
            generalize hzb : wrapS (s + tot mf j) = zb at *
            generalize hzb' : wrapS (s + tot mf (j + 1)) = zb' at *
            generalize hzt : tot f j = zt at *
            generalize hzt' : tot f (j + 1) = zt' at *
            have HE : Bx (wrapS (s + tot f (j + 1)) = za' ∧ wrapS (s + tot mf (j + 1)) = zb' ∧ tot f (j + 1) = zt') := ⟨by rw [hzt']; exact hza', hzb', hzt'⟩
            clear hza hza' hzb hzb' hzt hzt'
            have a0 := HK.out.a0
            have a1 := HK.out.a1
            have hc : wr.cell? ⟨b, off + j, none⟩ = some (.int .i64 x) := by rw [HK.out.t.below.cell (p := ⟨b, off + j, none⟩) (by show b < _; rw [HSz.out]; exact hbw), HR.out j hjn, HX.out.1]
            go_wp2_with fail
            go_still_tail 5, (by kernel_rfl)
            have HD : Bx (T2 w wr.drew S M A B C n s mf za zb zt) := ⟨HK.out.step (drewB _)⟩
            clear HK a0 a1 hc
            change wpList _ _ _ _ _ wr.drew
            generalize wr.drew = wd at *
            go_wp2_with fail
            refine (p1 _).mono ?_; rintro r w3 ⟨rfl, h3⟩
            have HB : Bx (T2 w w3 S M A B C n s mf za zb zt) := ⟨HD.out.step h3⟩
            clear HD h3 p1
            have a0 := HB.out.a0
            have a1 := HB.out.a1
            have fa := HB.out.fa
            have HL : Bx _ := ⟨HB.out.setA za'⟩
            go_wp2_with fail
            clear HB a0 a1 fa
            generalize ((w3.setCell ⟨A, 0, none⟩ (.int .i64 (hZ za'))).setCell ⟨A, 1, none⟩ (.int .u64 (lZ za'))) = w4 at *
            have a0 := HL.out.b0
            have a1 := HL.out.b1
            have hc : w4.cell? ⟨M, j, none⟩ = some (.int .i64 y) := by rw [HL.out.t.row j hjn, HX.out.2]
            go_still_tail 5, (by kernel_rfl)
            have HD : Bx (T2 w w4.drew S M A B C n s mf za' zb zt) := ⟨HL.out.step (drewB _)⟩
            clear HL a0 a1 hc
            change wpList _ _ _ _ _ w4.drew
            generalize w4.drew = wd at *
            go_wp2_with fail
            refine (p2 _).mono ?_; rintro r w5 ⟨rfl, h5⟩
            have HB : Bx (T2 w w5 S M A B C n s mf za' zb zt) := ⟨HD.out.step h5⟩
            clear HD h5 p2
            have a0 := HB.out.b0
            have a1 := HB.out.b1
            have fa := HB.out.fb
            have HL : Bx _ := ⟨HB.out.setB zb'⟩
            go_wp2_with fail
            clear HB a0 a1 fa
            generalize ((w5.setCell ⟨B, 0, none⟩ (.int .i64 (hZ zb'))).setCell ⟨B, 1, none⟩ (.int .u64 (lZ zb'))) = w6 at *
            have a0 := HL.out.c0
            have a1 := HL.out.c1
            have hc : w6.cell? ⟨b, off + j, none⟩ = some (.int .i64 x) := by rw [HL.out.t.below.cell (p := ⟨b, off + j, none⟩) (by show b < _; rw [HSz.out]; exact hbw), HR.out j hjn, HX.out.1]
            go_still_tail 5, (by kernel_rfl)
            have HD : Bx (T2 w w6.drew S M A B C n s mf za' zb' zt) := ⟨HL.out.step (drewB _)⟩
            clear HL a0 a1 hc
            change wpList _ _ _ _ _ w6.drew
            generalize w6.drew = wd at *
            go_wp2_with fail
            refine (p3 _).mono ?_; rintro r w7 ⟨rfl, h7⟩
            have HB : Bx (T2 w w7 S M A B C n s mf za' zb' zt) := ⟨HD.out.step h7⟩
            clear HD h7 p3
            have a0 := HB.out.c0
            have a1 := HB.out.c1
            have fa := HB.out.fc
            go_wp2
            exact ⟨⟨j + 1, by omega, by rw [Int.natCast_succ], ⟨by rw [HE.out.1, HE.out.2.1, HE.out.2.2]; exact HB.out.setC zt'⟩⟩, by simp only [intOf]; omega⟩
          · obtain rfl : j = n := by omega
            have hm := HT.out.1
            rw [hm] at HK
            clear hm
            have HF : Bx (InS (tot f j)) := ⟨sumIf_in (by omega) HZ.out⟩
            have HT0 : Bx (wrapS (s + tot f j - tot mf 0) = wrapS (s + tot f j)) := ⟨by simp [tot, sumIf]⟩
            have HTe : Bx (wrapS (s + tot f j - tot mf j) = s) := ⟨by rw [HT.out.1, show s + tot f j - tot f j = s by omega]; exact wrapS_of HSI.out⟩
            have a0 := HK.out.a0
            have a1 := HK.out.a1
            have b0 := HK.out.b0
            have b1 := HK.out.b1
            generalize wrapS (s + tot f j) = zb at *
            go_wp2_with fail
            clear a0 a1 b0 b1
            go_loopw [14] (fun i wr => ∃ r : Nat, r ≤ j ∧ i = .int .i64 r ∧ Bx (T2 w wr S M A B C j s mf (wrapS (s + tot f j - tot mf r)) zb (tot f j))) (fun i _ => j - (intOf i).toNat)
            case atStart => exact ⟨0, Nat.zero_le _, rfl, ⟨by rw [HT0.out]; exact HK.out⟩⟩
            case round =>
              obtain ⟨r, hr, rfl, HL⟩ := hrel
              clear HK
              by_cases hrn : r < j
              · have hxm := HT.out.2 r hrn
                have e2 : tot mf (r + 1) = tot mf r + mf r := by simp [tot, sumIf]
                have p1 := fun w => minus_w (wrapS (s + tot f j - tot mf r)) (mf r) w (wrapS_in _) hxm
                rw [wrapS_minus, show s + tot f j - tot mf r - mf r = s + tot f j - tot mf (r + 1) by omega] at p1
                clear e2 hxm
                generalize hza : wrapS (s + tot f j - tot mf r) = za at *
                obtain ⟨za', hza'⟩ : ∃ z, wrapS (s + tot f j - tot mf (r + 1)) = z := ⟨_, rfl⟩
                rw [hza'] at p1
                have HE : Bx (wrapS (s + tot f j - tot mf (r + 1)) = za') := ⟨hza'⟩
                clear hza hza'
                obtain ⟨y, hy⟩ : ∃ y, mf r = y := ⟨_, rfl⟩
                rw [hy] at p1
                have hc : wr.cell? ⟨M, r, none⟩ = some (.int .i64 y) := by rw [HL.out.t.row r hrn, hy]
                clear hy
                have a0 := HL.out.a0
                have a1 := HL.out.a1
                go_wp2_with fail
                go_still_tail 5, (by kernel_rfl)
                have HD : Bx (T2 w wr.drew S M A B C j s mf za zb (tot f j)) := ⟨HL.out.step (drewB _)⟩
                clear HL a0 a1 hc
                change wpList _ _ _ _ _ wr.drew
                generalize wr.drew = wd at *
                go_wp2_with fail
                refine (p1 _).mono ?_; rintro r' w3 ⟨rfl, h3⟩
                have HB : Bx (T2 w w3 S M A B C j s mf za zb (tot f j)) := ⟨HD.out.step h3⟩
                clear HD h3 p1
                have a0 := HB.out.a0
                have a1 := HB.out.a1
                have fa := HB.out.fa
                go_wp2
                exact ⟨⟨r + 1, by omega, by rw [Int.natCast_succ], ⟨by rw [HE.out]; exact HB.out.setA za'⟩⟩, by simp only [intOf]; omega⟩
              · obtain rfl : r = j := by omega
                rw [HTe.out] at HL
                have a0 := HL.out.a0
                have a1 := HL.out.a1
                have b0 := HL.out.t.s0
                have b1 := HL.out.t.s1
                have c0 := HL.out.c0
                have c1 := HL.out.c1
                have hrn0 : ((r : Int) == 0) = false := by simp; omega
                have hsz := HF.out.w
                have hf0 := (floor_between (L := -9223372036854775808) (G := 9223372036854775807) (SH := hZ (tot f r)) (SL := lZ (tot f r)) r hn (by omega) (by
                  obtain ⟨q1, q2⟩ := tot_between (L := -9223372036854775808) (G := 9223372036854775807) (f := f) (n := r) (fun i hi => ⟨(HZ.out i hi).lo, (HZ.out i hi).hi⟩)
                  exact ⟨⟨by decide, by decide⟩, ⟨by decide, by decide⟩, hsz, by rw [sZ_hl]; exact q1, by rw [sZ_hl]; exact q2⟩)).2.2
                have hR := fun w => ratio_any (hZ (tot f r)) (lZ (tot f r)) r w hsz ⟨by omega, by omega⟩ (by omega)
                rw [(fit_yes hf0).1, (fit_yes hf0).2] at hR
                obtain ⟨Q, hQ⟩ : ∃ Q, floorZ (sZ (hZ (tot f r)) (lZ (tot f r))) r = Q := ⟨_, rfl⟩
                rw [hQ] at hR
                have HQ : Bx (floorZ (sZ (hZ (tot f r)) (lZ (tot f r))) r = Q) := ⟨hQ⟩
                have HSZ : Bx (SumW (hZ (tot f r)) (lZ (tot f r))) := ⟨hsz⟩
                clear hQ hf0 hsz
                go_wp2_with fail
                refine (hR _).mono ?_; rintro r' w3 ⟨rfl, h3⟩
                have HB : Bx (T2 w w3 S M A B C r s mf s zb (tot f r)) := ⟨HL.out.step h3⟩
                clear h3 a0 a1 b0 b1 c0 c1 HL hR
                have hc0 : w3.cell? ⟨b, off, none⟩ = some (.int .i64 (f 0)) := by rw [HB.out.t.below.cell (p := ⟨b, off, none⟩) (by show b < _; rw [HSz.out]; exact hbw)]; exact HR.out 0 hn
                have hpos : (0 : Int) < (r : Int) := by omega
                simp only [eV]
                go_wp2_with fail
                go_quiet (fail)
                go_wp2_with fail
                have HB4 : Bx (T2 w (w3.drewN nq) S M A B C r s mf s zb (tot f r)) := ⟨HB.out.step (below_drewN _ _)⟩
                clear HB hc0
                generalize w3.drewN nq = w4 at *
                go_loopw [17, 18, 19] (fun lo hi i wr => ∃ (k : Nat) (L G : Int), k ≤ r ∧ i = .int .i64 k ∧ lo = .int .i64 L ∧ hi = .int .i64 G ∧ Bx (I64 L ∧ I64 G ∧ ∀ i, i < k → L ≤ f i ∧ f i ≤ G) ∧ Bx (T2 w wr S M A B C r s mf s zb (tot f r))) (fun _ _ i _ => r - (intOf i).toNat)
                case atStart => exact ⟨0, f 0, f 0, Nat.zero_le _, rfl, rfl, rfl, ⟨HZ.out 0 hn, HZ.out 0 hn, fun i hi => by omega⟩, HB4⟩
                case round =>
                  obtain ⟨k, L, G, hk, rfl, rfl, rfl, HLG, HK⟩ := hrel
                  clear HB4
                  by_cases hlt : k < r
                  · have hc : wr.cell? ⟨b, off + k, none⟩ = some (.int .i64 (f k)) := by rw [HK.out.t.below.cell (p := ⟨b, off + k, none⟩) (by show b < _; rw [HSz.out]; exact hbw)]; exact HR.out k hlt
                    go_wp2_with fail
                    have hI := HZ.out k hlt
                    refine ⟨⟨k + 1, min L (f k), max G (f k), by omega, by rw [Int.natCast_succ], rfl, rfl, ⟨⟨?_, ?_⟩, ⟨?_, ?_⟩, fun i hi => ?_⟩, HK⟩, by simp only [intOf]; omega⟩
                    · have := HLG.out.1.lo; have := hI.lo; omega
                    · have := HLG.out.1.hi; have := hI.hi; omega
                    · have := HLG.out.2.1.lo; have := hI.lo; omega
                    · have := HLG.out.2.1.hi; have := hI.hi; omega
                    · rcases Nat.lt_or_ge i k with h | h
                      · have := HLG.out.2.2 i h; omega
                      · obtain rfl : i = k := by omega
                        omega
                  · obtain rfl : k = r := by omega
                    obtain ⟨m0, m1, _⟩ := floor_between (L := L) (G := G) (SH := hZ (tot f k)) (SL := lZ (tot f k)) k hn (by omega) (by
                      obtain ⟨q1, q2⟩ := tot_between HLG.out.2.2
                      exact ⟨HLG.out.1, HLG.out.2.1, HSZ.out, by rw [sZ_hl]; exact q1, by rw [sZ_hl]; exact q2⟩)
                    rw [HQ.out] at m0 m1
                    go_wp2
                    go_ret
                    exact ⟨rfl, HK.out.t.below⟩
end Go.Proofs.Ythlfbakndbjhoaa
