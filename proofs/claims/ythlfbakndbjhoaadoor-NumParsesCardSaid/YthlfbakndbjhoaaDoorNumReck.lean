/- The walk of the statement NumReckons: each function and the document's tell the same number and the same error. Condition: errors.errorType holds the handle of the type error. -/
import Derived.Test.YthlfbakndbjhoaaDoorNumM
set_option linter.unusedSimpArgs false
set_option linter.unusedVariables false
namespace Go.Proofs.YthlfbakndbjhoaaDoor
open Go.RowKit

/-- no error, or one of a number -/
def eV (c : Int) : Value := if c = 0 then .nilIface else errV c
theorem eV_zero : eV 0 = .nilIface := rfl
theorem eV_pos {c : Int} (h : 1 ≤ c) : eV c = errV c := by unfold eV; rw [if_neg (by omega)]

/-- 'same': the same number, the same error -/
theorem same_any (n c : Int) (w : World) (hG : Glob w) (hc : 0 ≤ c) :
    Calls Tryd.prog 22 #[.int .i64 n, eV c, .int .i64 n, badV c] w fun e w' => e = .returned (.bool true) ∧ Below w.heap.size w w' := by
  have hlt := hG.lt
  have hG0 : ∀ o, Glob (w.alloc o) := fun o => hG.below (below1 _ _) hlt
  have hS : ∀ W, Glob W → Calls Tryd.prog 37 #[eV c, badV c] W fun e w' => e = .returned (.bool true) ∧ Below W.heap.size W w' := by
    intro W hW
    by_cases h : c = 0
    · subst h; exact same_nil W
    · rw [eV_pos (by omega)]; exact same_E c W hW (by omega)
  have HS := Lib.hid hS
  clear hS
  go_enter Tryd.func22, Tryd.ntmps22
  go_wp2_with (go_at_call 37; refine (HS.out _ (hG0 _)).mono ?_; rintro e w1 ⟨rfl, hb⟩)
  go_ret
  exact ⟨rfl, (below1 _ _).trans (hb.mono (by simp))⟩

def Fits (n : Int) : Prop := -9223372036854775808 ≤ n ∧ n ≤ 9223372036854775807
open Classical in
noncomputable def fitN (n : Int) : Int := if Fits n then n else 0
open Classical in
noncomputable def fitC (n : Int) : Int := if Fits n then 0 else 20
theorem fitC_nn (n : Int) : 0 ≤ fitC n := by unfold fitC; split <;> omega

section
variable (a b : Int) (w : World) (ha : I64 a) (hb : I64 b)
include ha hb
theorem add_all : Calls Tryd.prog 20 #[.int .i64 a, .int .i64 b] w fun e w' => e = .returned (.tuple #[.int .i64 (fitN (a + b)), eV (fitC (a + b))]) ∧ w = w' := by
  by_cases h : Fits (a + b)
  · rw [show fitN (a + b) = a + b by unfold fitN; rw [if_pos h], show fitC (a + b) = 0 by unfold fitC; rw [if_pos h]]; exact add_ok a b w h.1 h.2
  · rw [show fitN (a + b) = 0 by unfold fitN; rw [if_neg h], show fitC (a + b) = 20 by unfold fitC; rw [if_neg h]]; exact add_over a b w ha.lo ha.hi hb.lo hb.hi h
theorem radd_all : Calls Tryd.prog 21 #[.int .i64 a, .int .i64 b] w fun e w' => e = .returned (.tuple #[.int .i64 (fitN (a + b)), badV (fitC (a + b))]) ∧ Below w.heap.size w w' := by
  by_cases h : Fits (a + b)
  · rw [show fitN (a + b) = a + b by unfold fitN; rw [if_pos h], show fitC (a + b) = 0 by unfold fitC; rw [if_pos h]]; exact radd_ok a b w h.1 h.2
  · rw [show fitN (a + b) = 0 by unfold fitN; rw [if_neg h], show fitC (a + b) = 20 by unfold fitC; rw [if_neg h]]; exact radd_over a b w ha hb h
theorem sub_all : Calls Tryd.prog 23 #[.int .i64 a, .int .i64 b] w fun e w' => e = .returned (.tuple #[.int .i64 (fitN (a - b)), eV (fitC (a - b))]) ∧ w = w' := by
  by_cases h : Fits (a - b)
  · rw [show fitN (a - b) = a - b by unfold fitN; rw [if_pos h], show fitC (a - b) = 0 by unfold fitC; rw [if_pos h]]; exact sub_ok a b w h.1 h.2
  · rw [show fitN (a - b) = 0 by unfold fitN; rw [if_neg h], show fitC (a - b) = 20 by unfold fitC; rw [if_neg h]]; exact sub_over a b w ha.lo ha.hi hb.lo hb.hi h
theorem rsub_all : Calls Tryd.prog 24 #[.int .i64 a, .int .i64 b] w fun e w' => e = .returned (.tuple #[.int .i64 (fitN (a - b)), badV (fitC (a - b))]) ∧ Below w.heap.size w w' := by
  by_cases h : Fits (a - b)
  · rw [show fitN (a - b) = a - b by unfold fitN; rw [if_pos h], show fitC (a - b) = 0 by unfold fitC; rw [if_pos h]]; exact rsub_ok a b w h.1 h.2
  · rw [show fitN (a - b) = 0 by unfold fitN; rw [if_neg h], show fitC (a - b) = 20 by unfold fitC; rw [if_neg h]]; exact rsub_over a b w ha hb h
theorem mul_all : Calls Tryd.prog 25 #[.int .i64 a, .int .i64 b] w fun e w' => e = .returned (.tuple #[.int .i64 (fitN (a * b)), eV (fitC (a * b))]) ∧ Below w.heap.size w w' := by
  by_cases h : Fits (a * b)
  · rw [show fitN (a * b) = a * b by unfold fitN; rw [if_pos h], show fitC (a * b) = 0 by unfold fitC; rw [if_pos h]]; exact mul_ok a b w ha hb h
  · rw [show fitN (a * b) = 0 by unfold fitN; rw [if_neg h], show fitC (a * b) = 20 by unfold fitC; rw [if_neg h]]; exact mul_over a b w ha hb h
theorem rmul_all : Calls Tryd.prog 26 #[.int .i64 a, .int .i64 b] w fun e w' => e = .returned (.tuple #[.int .i64 (fitN (a * b)), badV (fitC (a * b))]) ∧ Below w.heap.size w w' := by
  by_cases h : Fits (a * b)
  · rw [show fitN (a * b) = a * b by unfold fitN; rw [if_pos h], show fitC (a * b) = 0 by unfold fitC; rw [if_pos h]]
    by_cases hz : a = 0 ∨ b = 0
    · rw [show a * b = 0 by rcases hz with rfl | rfl <;> simp]; exact rmul_zero a b w hz
    · exact rmul_ok a b w (fun x => hz (.inl x)) (fun x => hz (.inr x)) h.1 h.2 ha hb
  · rw [show fitN (a * b) = 0 by unfold fitN; rw [if_neg h], show fitC (a * b) = 20 by unfold fitC; rw [if_neg h]]; exact rmul_over a b w h ha hb
open Classical in
noncomputable def quoN (a b : Int) : Int := if b = 0 then 0 else if b = -1 then fitN (-a) else divN a b
open Classical in
noncomputable def quoC (a b : Int) : Int := if b = 0 then 21 else if b = -1 then fitC (-a) else 0
omit ha hb in
theorem quoC_nn : 0 ≤ quoC a b := by unfold quoC; split; omega; split; exact fitC_nn _; omega
theorem div_all : Calls Tryd.prog 13 #[.int .i64 a, .int .i64 b] w fun e w' => e = .returned (.tuple #[.int .i64 (quoN a b), eV (quoC a b)]) ∧ w = w' := by
  unfold quoN quoC
  by_cases h0 : b = 0
  · subst h0; exact div_zero a w
  · rw [if_neg h0, if_neg h0]
    by_cases h1 : b = -1
    · subst h1
      rw [if_pos rfl, if_pos rfl]
      by_cases h : Fits (-a)
      · rw [show fitN (-a) = -a by unfold fitN; rw [if_pos h], show fitC (-a) = 0 by unfold fitC; rw [if_pos h]]
        unfold Fits at h
        exact div_m1 a w (by omega) ha.hi
      · rw [show fitN (-a) = 0 by unfold fitN; rw [if_neg h], show fitC (-a) = 20 by unfold fitC; rw [if_neg h]]
        have l0 := ha.lo; have l1 := ha.hi
        obtain rfl : a = -9223372036854775808 := by unfold Fits at h; omega
        exact div_m1_over w
    · rw [if_neg h1, if_neg h1]; exact div_any a b w ha.lo ha.hi h0 h1
theorem rdiv_all : Calls Tryd.prog 29 #[.int .i64 a, .int .i64 b] w fun e w' => e = .returned (.tuple #[.int .i64 (quoN a b), badV (quoC a b)]) ∧ Below w.heap.size w w' := by
  unfold quoN quoC
  by_cases h0 : b = 0
  · subst h0; exact rdiv_zero a w
  · rw [if_neg h0, if_neg h0]
    by_cases h1 : b = -1
    · subst h1
      rw [if_pos rfl, if_pos rfl]
      by_cases h : Fits (-a)
      · rw [show fitN (-a) = -a by unfold fitN; rw [if_pos h], show fitC (-a) = 0 by unfold fitC; rw [if_pos h]]
        unfold Fits at h
        exact rdiv_m1 a w (by omega) ha.hi
      · rw [show fitN (-a) = 0 by unfold fitN; rw [if_neg h], show fitC (-a) = 20 by unfold fitC; rw [if_neg h]]
        have l0 := ha.lo; have l1 := ha.hi
        obtain rfl : a = -9223372036854775808 := by unfold Fits at h; omega
        exact rdiv_over w
    · rw [if_neg h1, if_neg h1]; exact rdiv_any a b w ha h0 h1
open Classical in
noncomputable def restN (a b : Int) : Int := if b = 0 then 0 else if b = -1 then 0 else modN a b
open Classical in
noncomputable def restC (b : Int) : Int := if b = 0 then 21 else 0
omit ha hb in
theorem restC_nn : 0 ≤ restC b := by unfold restC; split <;> omega
omit ha in
theorem mod_all : Calls Tryd.prog 14 #[.int .i64 a, .int .i64 b] w fun e w' => e = .returned (.tuple #[.int .i64 (restN a b), eV (restC b)]) ∧ w = w' := by
  unfold restN restC
  by_cases h0 : b = 0
  · subst h0; exact mod_zero a w
  · rw [if_neg h0, if_neg h0]
    by_cases h1 : b = -1
    · subst h1; exact mod_m1 a w
    · rw [if_neg h1]; exact mod_any a b w hb.lo hb.hi h0 h1
omit ha in
theorem rmod_all : Calls Tryd.prog 30 #[.int .i64 a, .int .i64 b] w fun e w' => e = .returned (.tuple #[.int .i64 (restN a b), badV (restC b)]) ∧ Below w.heap.size w w' := by
  unfold restN restC
  by_cases h0 : b = 0
  · subst h0; exact rmod_zero a w
  · rw [if_neg h0, if_neg h0]
    by_cases h1 : b = -1
    · subst h1; exact rmod_m1 a w
    · rw [if_neg h1]; exact rmod_any a b w hb h0 h1
end
theorem neg_all (a : Int) (w : World) (ha : I64 a) : Calls Tryd.prog 27 #[.int .i64 a] w fun e w' => e = .returned (.tuple #[.int .i64 (fitN (-a)), eV (fitC (-a))]) ∧ w = w' := by
  have l0 := ha.lo; have l1 := ha.hi
  by_cases h : Fits (-a)
  · rw [show fitN (-a) = -a by unfold fitN; rw [if_pos h], show fitC (-a) = 0 by unfold fitC; rw [if_pos h]]
    unfold Fits at h
    exact neg_ok a w (by omega) (by omega)
  · rw [show fitN (-a) = 0 by unfold fitN; rw [if_neg h], show fitC (-a) = 20 by unfold fitC; rw [if_neg h]]
    obtain rfl : a = -9223372036854775808 := by unfold Fits at h; omega
    exact neg_over w
theorem rneg_all (a : Int) (w : World) (ha : I64 a) : Calls Tryd.prog 28 #[.int .i64 a] w fun e w' => e = .returned (.tuple #[.int .i64 (fitN (-a)), badV (fitC (-a))]) ∧ Below w.heap.size w w' := by
  have l0 := ha.lo; have l1 := ha.hi
  by_cases h : Fits (-a)
  · rw [show fitN (-a) = -a by unfold fitN; rw [if_pos h], show fitC (-a) = 0 by unfold fitC; rw [if_pos h]]
    unfold Fits at h
    exact rneg_ok a w (by omega) (by omega)
  · rw [show fitN (-a) = 0 by unfold fitN; rw [if_neg h], show fitC (-a) = 20 by unfold fitC; rw [if_neg h]]
    obtain rfl : a = -9223372036854775808 := by unfold Fits at h; omega
    exact rneg_over w

/-- a box of the document's error, below which nothing has turned -/
structure Inv (w0 w : World) (B : Nat) (v0 v1 v2 v3 v4 : Value) : Prop where
  glob : Glob w
  below : Below w0.heap.size w0 w
  old : w0.heap.size ≤ B
  lt : B < w.heap.size
  pos : 0 < w0.heap.size
  c0 : w.cell? ⟨B, 0, none⟩ = some v0
  c1 : w.cell? ⟨B, 1, none⟩ = some v1
  c2 : w.cell? ⟨B, 2, none⟩ = some v2
  c3 : w.cell? ⟨B, 3, none⟩ = some v3
  c4 : w.cell? ⟨B, 4, none⟩ = some v4
  f : ∀ i, w.frozen? ⟨B, i, none⟩ = false
theorem Inv.alloc {w0 w : World} {T : Nat} (hG0 : Glob w0) (hG : Glob w) (hb : Below w0.heap.size w0 w) (v0 v1 v2 v3 v4 : Value) : Inv w0 (w.alloc (.cells #[v0, v1, v2, v3, v4] T)) w.heap.size v0 v1 v2 v3 v4 where
  glob := hG.below (below1 _ _) hG.lt
  below := hb.trans ((below1 _ _).mono hb.size)
  old := hb.size
  lt := by simp only [heap_push, Array.size_push]; omega
  pos := hG0.lt
  c0 := by rw [World.cell?_alloc_at _ _ _ _ rfl]; rfl
  c1 := by rw [World.cell?_alloc_at _ _ _ _ rfl]; rfl
  c2 := by rw [World.cell?_alloc_at _ _ _ _ rfl]; rfl
  c3 := by rw [World.cell?_alloc_at _ _ _ _ rfl]; rfl
  c4 := by rw [World.cell?_alloc_at _ _ _ _ rfl]; rfl
  f := fun i => by simp
theorem Inv.step {w0 w w' : World} {B : Nat} {v0 v1 v2 v3 v4 : Value} (h : Inv w0 w B v0 v1 v2 v3 v4) (hb : Below w.heap.size w w') : Inv w0 w' B v0 v1 v2 v3 v4 where
  glob := h.glob.below hb h.glob.lt
  below := h.below.trans (hb.mono h.below.size)
  old := h.old
  lt := Nat.lt_of_lt_of_le h.lt hb.size
  pos := h.pos
  c0 := by rw [hb.cell (p := ⟨B, 0, none⟩) h.lt]; exact h.c0
  c1 := by rw [hb.cell (p := ⟨B, 1, none⟩) h.lt]; exact h.c1
  c2 := by rw [hb.cell (p := ⟨B, 2, none⟩) h.lt]; exact h.c2
  c3 := by rw [hb.cell (p := ⟨B, 3, none⟩) h.lt]; exact h.c3
  c4 := by rw [hb.cell (p := ⟨B, 4, none⟩) h.lt]; exact h.c4
  f := fun i => by rw [hb.frozen (p := ⟨B, i, none⟩) h.lt]; exact h.f i
theorem cell_set_ne {w : World} {B i j : Nat} {u v : Value} (h : w.cell? ⟨B, j, none⟩ = some v) (hij : i ≠ j) : (w.setCell ⟨B, i, none⟩ u).cell? ⟨B, j, none⟩ = some v := by
  rw [World.cell?_setCell_other]; exact h
  intro e; injection e; omega
theorem cell_set_eq {w : World} {B i : Nat} {u v : Value} (h : w.cell? ⟨B, i, none⟩ = some v) : (w.setCell ⟨B, i, none⟩ u).cell? ⟨B, i, none⟩ = some u :=
  World.cell?_setCell_same' _ _ _ (by rw [h]; rfl)
theorem frozen_set {w : World} (a b : Addr) (u : Value) : (w.setCell a u).frozen? b = w.frozen? b := by simp
theorem size_set {w : World} (a : Addr) (u : Value) : (w.setCell a u).heap.size = w.heap.size := by simp [World.setCell]
theorem glob_set {w : World} {B i : Nat} {u : Value} (h : Glob w) (hB : 0 ≠ B) : Glob (w.setCell ⟨B, i, none⟩ u) := by
  unfold Glob at *
  rw [World.cell?_setCell_other]; exact h
  intro e; injection e; omega
theorem Inv.set {w0 w : World} {B : Nat} {v0 v1 v2 v3 v4 : Value} (h : Inv w0 w B v0 v1 v2 v3 v4) (u0 u1 u2 u3 u4 : Value) :
    Inv w0 (((((w.setCell ⟨B, 0, none⟩ u0).setCell ⟨B, 1, none⟩ u1).setCell ⟨B, 2, none⟩ u2).setCell ⟨B, 3, none⟩ u3).setCell ⟨B, 4, none⟩ u4) B u0 u1 u2 u3 u4 := by
  have h0 := h.old
  have h1 := h.pos
  exact {
    glob := glob_set (glob_set (glob_set (glob_set (glob_set h.glob (by omega)) (by omega)) (by omega)) (by omega)) (by omega)
    below := ((((h.below.setCell (p := ⟨B, 0, none⟩) h0 _).setCell (p := ⟨B, 1, none⟩) h0 _).setCell (p := ⟨B, 2, none⟩) h0 _).setCell (p := ⟨B, 3, none⟩) h0 _).setCell (p := ⟨B, 4, none⟩) h0 _
    old := h0
    lt := by simp only [size_set]; exact h.lt
    pos := h1
    c0 := cell_set_ne (cell_set_ne (cell_set_ne (cell_set_ne (cell_set_eq h.c0) (by omega)) (by omega)) (by omega)) (by omega)
    c1 := cell_set_ne (cell_set_ne (cell_set_ne (cell_set_eq (cell_set_ne h.c1 (by omega))) (by omega)) (by omega)) (by omega)
    c2 := cell_set_ne (cell_set_ne (cell_set_eq (cell_set_ne (cell_set_ne h.c2 (by omega)) (by omega))) (by omega)) (by omega)
    c3 := cell_set_ne (cell_set_eq (cell_set_ne (cell_set_ne (cell_set_ne h.c3 (by omega)) (by omega)) (by omega))) (by omega)
    c4 := cell_set_eq (cell_set_ne (cell_set_ne (cell_set_ne (cell_set_ne h.c4 (by omega)) (by omega)) (by omega)) (by omega))
    f := fun i => by simp only [frozen_set]; exact h.f i }

set_option maxHeartbeats 4000000 in
theorem reckons_any (a b : Int) (w : World) (hG : Glob w) (ha : I64 a) (hb : I64 b) :
    Calls Tryd.prog 6 #[.int .i64 a, .int .i64 b] w fun e w' => e = .returned (.bool true) ∧ Below w.heap.size w w' := by
  go_enter Tryd.func6, Tryd.ntmps6
  go_wp2_with fail
  refine (live_any _ hG).mono ?_; rintro e w1 ⟨rfl, h1⟩
  have G1 : Glob w1 := hG.below h1 hG.lt
  go_wp2_with fail
  refine (add_all a b _ ha hb).mono ?_; rintro e w' ⟨rfl, rfl⟩
  go_wp2_with fail
  refine (radd_all a b _ ha hb).mono ?_; rintro e w2 ⟨rfl, h2⟩
  have G2 : Glob w2 := G1.below h2 G1.lt
  have I := Inv.alloc (T := 44) hG G2 (h1.trans (h2.mono h1.size)) (.int .i64 (fitC (a + b))) (.int .i64 0) (.int .i64 0) (.bool false) (.bool false)
  clear h1 h2 G1 G2
  go_wp2_with fail
  refine (same_any _ _ _ I.glob (fitC_nn _)).mono ?_; rintro e w3 ⟨rfl, h3⟩
  replace I := I.step h3
  clear h3
  generalize hB : w2.heap.size = B at *
  clear hB
  go_wp2_with fail
  refine (sub_all a b _ ha hb).mono ?_; rintro e w' ⟨rfl, rfl⟩
  go_wp2_with fail
  refine (rsub_all a b _ ha hb).mono ?_; rintro e w4 ⟨rfl, h4⟩
  replace I := I.step h4
  clear h4
  have c0 := I.c0; have c1 := I.c1; have c2 := I.c2; have c3 := I.c3; have c4 := I.c4; have f := I.f
  go_wp2_with fail
  clear c0 c1 c2 c3 c4 f
  replace I := I.set (.int .i64 (fitC (a - b))) (.int .i64 0) (.int .i64 0) (.bool false) (.bool false)
  refine (same_any _ _ _ I.glob (fitC_nn _)).mono ?_; rintro e w5 ⟨rfl, h5⟩
  replace I := I.step h5
  clear h5
  go_wp2_with fail
  refine (mul_all a b _ ha hb).mono ?_; rintro e w6 ⟨rfl, h6⟩
  replace I := I.step h6
  clear h6
  go_wp2_with fail
  refine (rmul_all a b _ ha hb).mono ?_; rintro e w7 ⟨rfl, h7⟩
  replace I := I.step h7
  clear h7
  have c0 := I.c0; have c1 := I.c1; have c2 := I.c2; have c3 := I.c3; have c4 := I.c4; have f := I.f
  go_wp2_with fail
  clear c0 c1 c2 c3 c4 f
  replace I := I.set (.int .i64 (fitC (a * b))) (.int .i64 0) (.int .i64 0) (.bool false) (.bool false)
  refine (same_any _ _ _ I.glob (fitC_nn _)).mono ?_; rintro e w8 ⟨rfl, h8⟩
  replace I := I.step h8
  clear h8
  go_wp2_with fail
  refine (neg_all a _ ha).mono ?_; rintro e w' ⟨rfl, rfl⟩
  go_wp2_with fail
  refine (rneg_all a _ ha).mono ?_; rintro e w9 ⟨rfl, h9⟩
  replace I := I.step h9
  clear h9
  have c0 := I.c0; have c1 := I.c1; have c2 := I.c2; have c3 := I.c3; have c4 := I.c4; have f := I.f
  go_wp2_with fail
  clear c0 c1 c2 c3 c4 f
  replace I := I.set (.int .i64 (fitC (-a))) (.int .i64 0) (.int .i64 0) (.bool false) (.bool false)
  refine (same_any _ _ _ I.glob (fitC_nn _)).mono ?_; rintro e w10 ⟨rfl, h10⟩
  replace I := I.step h10
  clear h10
  go_wp2_with fail
  refine (div_all a b _ ha hb).mono ?_; rintro e w' ⟨rfl, rfl⟩
  go_wp2_with fail
  refine (rdiv_all a b _ ha hb).mono ?_; rintro e w11 ⟨rfl, h11⟩
  replace I := I.step h11
  clear h11
  have c0 := I.c0; have c1 := I.c1; have c2 := I.c2; have c3 := I.c3; have c4 := I.c4; have f := I.f
  go_wp2_with fail
  clear c0 c1 c2 c3 c4 f
  replace I := I.set (.int .i64 (quoC a b)) (.int .i64 0) (.int .i64 0) (.bool false) (.bool false)
  refine (same_any _ _ _ I.glob (quoC_nn _ _)).mono ?_; rintro e w12 ⟨rfl, h12⟩
  replace I := I.step h12
  clear h12
  go_wp2_with fail
  refine (mod_all a b _ hb).mono ?_; rintro e w' ⟨rfl, rfl⟩
  go_wp2_with fail
  refine (rmod_all a b _ hb).mono ?_; rintro e w13 ⟨rfl, h13⟩
  replace I := I.step h13
  clear h13
  have c0 := I.c0; have c1 := I.c1; have c2 := I.c2; have c3 := I.c3; have c4 := I.c4; have f := I.f
  go_wp2_with fail
  clear c0 c1 c2 c3 c4 f
  replace I := I.set (.int .i64 (restC b)) (.int .i64 0) (.int .i64 0) (.bool false) (.bool false)
  refine (same_any _ _ _ I.glob (restC_nn _)).mono ?_; rintro e w14 ⟨rfl, h14⟩
  replace I := I.step h14
  clear h14
  have HB := Lib.hid I.below
  clear I
  go_wp2
  go_ret
  exact ⟨rfl, HB.out⟩
end Go.Proofs.YthlfbakndbjhoaaDoor
