/- The document's piece and sign. The document's Parse. -/
import Derived.Test.YtbaopcpmmdmomaaGreatDoorKeyPd
set_option linter.unusedSimpArgs false
set_option linter.unusedVariables false
namespace Go.Proofs.YtbaopcpmmdmomaaGreatDoor
section
open Go.RowKit
/-- the cells of the document's error -/
def bE : Option Nat → List Value
  | none => [.int .i64 0, .int .i64 0, .int .i64 0, .bool false, .bool false]
  | some p => [.int .i64 53, .int .i64 p, .int .i64 0, .bool true, .bool false]
/-- the document's error -/
def badE (e : Option Nat) : Value := .agg (bE e).toArray
theorem badE_none : badE none = badV 0 := rfl
theorem badE_some (p : Nat) : badE (some p) = badAt p 53 := rfl
/-- what the document's piece returns -/
def rpV : List UInt8 × Nat × Option Nat → Value
  | (t, k, none) => .tuple #[strV t, .int .i64 k, badV 0]
  | (_, _, some p) => .tuple #[strV [], .int .i64 0, badAt p 53]
end
section
open Go.RowKit
/-- the cells of a box -/
def CA (w : World) (R : Nat) (xs : List Value) : Prop := ∀ (i : Nat) (v : Value), xs[i]? = some v → w.cell? ⟨R, i, none⟩ = some v
theorem CA.grown {w w' : World} {R : Nat} {xs : List Value} {row : Option Nat} (h : CA w R xs) (hg : w.grownBy w' row) (hne : some R ≠ row) : CA w' R xs := fun i v hi => hg.cell (h i v hi) hne
theorem CA.drew {w : World} {R : Nat} {xs : List Value} (h : CA w R xs) : CA w.drew R xs := fun i v hi => h i v hi
theorem CA.alloc (w : World) (xs : List Value) (T : Nat) : CA (w.alloc (.cells xs.toArray T)) w.heap.size xs := fun i v h => by rw [World.cell?_alloc_at _ _ _ _ rfl]; simpa using h
theorem CA.far {w : World} {R B i : Nat} {xs : List Value} (h : CA w R xs) (u : Value) (hne : R ≠ B) : CA (w.setCell ⟨B, i, none⟩ u) R xs := fun j v hj => by
  rw [World.cell?_setCell_other _ _ _ _ (by intro e; injection e; omega)]; exact h j v hj
theorem CA.set {w : World} {R i : Nat} {xs : List Value} (h : CA w R xs) (u : Value) (hi : i < xs.length) : CA (w.setCell ⟨R, i, none⟩ u) R (xs.set i u) := fun j v hj => by
  by_cases hij : i = j
  · subst hij
    rw [List.getElem?_set_self hi] at hj
    injection hj with hj
    subst hj
    exact cell_set_eq (h i xs[i] (List.getElem?_eq_getElem hi))
  · rw [List.getElem?_set_ne hij] at hj
    exact cell_set_ne (h j v hj) hij
/-- what the document's Parse keeps: the results' boxes S, S + 1, the series' S + 1 + 1, the error's B -/
structure QL (w0 w : World) (S B : Nat) (l m fd : List UInt8) (v : Value) (ts : List (List UInt8 × List UInt8)) (e : Option Nat) : Prop where
  below : Below S w0 w
  sb : S + 1 + 1 < B
  blt : B < w.heap.size
  o : CA w (S + 1 + 1) [strV m, v, strV fd]
  r : CA w S [strV [], .slice none 0 0, strV []]
  d : CA w (S + 1) (bE none)
  b : CA w B (bE e)
  f : ∀ R i, (R = S ∨ R = S + 1 ∨ R = S + 1 + 1 ∨ R = B) → w.frozen? ⟨R, i, none⟩ = false
  own : w.ownsRow (B + 1) 70 2 v ts.length (tagC ts)
theorem QL.grown {w0 w w' : World} {S B : Nat} {l m fd : List UInt8} {v : Value} {ts : List (List UInt8 × List UInt8)} {e : Option Nat} {row : Option Nat} (h : QL w0 w S B l m fd v ts e) (hg : w.grownBy w' row) (hr : ∀ g, row = some g → B < g)
    (hv : v.ownBlock = none ∨ v.ownBlock ≠ row) : QL w0 w' S B l m fd v ts e where
  below := below_own h.below hg (fun g e => by have := hr g e; have := h.sb; omega) (by have := h.blt; have := h.sb; omega)
  sb := h.sb
  blt := Nat.lt_of_lt_of_le h.blt hg.size
  o := h.o.grown hg (fun e => by have := hr _ e.symm; have := h.sb; omega)
  r := h.r.grown hg (fun e => by have := hr _ e.symm; have := h.sb; omega)
  d := h.d.grown hg (fun e => by have := hr _ e.symm; have := h.sb; omega)
  b := h.b.grown hg (fun e => by have := hr _ e.symm; omega)
  f := fun R i hR => by
    have hb := h.blt
    have hs := h.sb
    rw [hg.frozen_far ⟨R, i, none⟩ (by show R < _; omega) (fun e => by have := hr _ e.symm; simp only at this; omega)]; exact h.f R i hR
  own := h.own.kept hg hv
theorem QL.step {w0 w w' : World} {S B : Nat} {l m fd : List UInt8} {v : Value} {ts : List (List UInt8 × List UInt8)} {e : Option Nat} (h : QL w0 w S B l m fd v ts e) (hb : Below w.heap.size w w') : QL w0 w' S B l m fd v ts e :=
  h.grown (grown_below hb none) (fun g e => (by cases e)) (by cases hv : v.ownBlock <;> simp)
theorem QL.setT {w0 w : World} {S B T i : Nat} {l m fd : List UInt8} {v : Value} {ts : List (List UInt8 × List UInt8)} {e : Option Nat} (h : QL w0 w S B l m fd v ts e) (u : Value) (hT : B < T) (hv : v.ownBlock ≠ some T) : QL w0 (w.setCell ⟨T, i, none⟩ u) S B l m fd v ts e :=
  h.grown (grown_setCell (g := T) (p := ⟨T, i, none⟩) (grown_refl w _) rfl u) (fun g e => (by injection e with e; omega)) (.inr hv)
theorem own_low {w : World} {B R i : Nat} {v : Value} {n : Nat} {xs : List Value} (u : Value) (ho : w.ownsRow (B + 1) 70 2 v n xs) (hR : R ≤ B) : (w.setCell ⟨R, i, none⟩ u).ownsRow (B + 1) 70 2 v n xs :=
  ho.kept (grown_setCell (g := R) (p := ⟨R, i, none⟩) (grown_refl w _) rfl u) (.inr (fun e => by have := (ho.lt _ e).1; omega))
/-- the error's box takes another error -/
theorem QL.setB {w0 w : World} {S B : Nat} {l m fd : List UInt8} {v : Value} {ts : List (List UInt8 × List UInt8)} {e : Option Nat} (h : QL w0 w S B l m fd v ts e) (e' : Option Nat) (x0 x1 x2 x3 x4 : Value) (hx : bE e' = [x0, x1, x2, x3, x4]) :
    QL w0 (((((w.setCell ⟨B, 0, none⟩ x0).setCell ⟨B, 1, none⟩ x1).setCell ⟨B, 2, none⟩ x2).setCell ⟨B, 3, none⟩ x3).setCell ⟨B, 4, none⟩ x4) S B l m fd v ts e' := by
  have hs := h.sb
  have hlen : (bE e).length = 5 := by cases e <;> rfl
  refine ⟨?_, hs, by simp only [size_set]; exact h.blt, ?_, ?_, ?_, ?_, fun R i hR => by simp only [World.frozen?_setCell]; exact h.f R i hR, ?_⟩
  · exact ((((h.below.setCell (p := ⟨B, 0, none⟩) (by show S ≤ B; omega) _).setCell (p := ⟨B, 1, none⟩) (by show S ≤ B; omega) _).setCell (p := ⟨B, 2, none⟩) (by show S ≤ B; omega) _).setCell (p := ⟨B, 3, none⟩) (by show S ≤ B; omega) _).setCell (p := ⟨B, 4, none⟩) (by show S ≤ B; omega) _
  · exact ((((h.o.far _ (by omega)).far _ (by omega)).far _ (by omega)).far _ (by omega)).far _ (by omega)
  · exact ((((h.r.far _ (by omega)).far _ (by omega)).far _ (by omega)).far _ (by omega)).far _ (by omega)
  · exact ((((h.d.far _ (by omega)).far _ (by omega)).far _ (by omega)).far _ (by omega)).far _ (by omega)
  · have hc := ((((h.b.set (i := 0) x0 (by omega)).set (i := 1) x1 (by simp; omega)).set (i := 2) x2 (by simp; omega)).set (i := 3) x3 (by simp; omega)).set (i := 4) x4 (by simp; omega)
    rw [hx]
    have he : (((((bE e).set 0 x0).set 1 x1).set 2 x2).set 3 x3).set 4 x4 = [x0, x1, x2, x3, x4] := by cases e <;> rfl
    rwa [he] at hc
  · exact own_low _ (own_low _ (own_low _ (own_low _ (own_low _ h.own (Nat.le_refl _)) (Nat.le_refl _)) (Nat.le_refl _)) (Nat.le_refl _)) (Nat.le_refl _)
theorem QL.setM {w0 w : World} {S B : Nat} {l m fd : List UInt8} {v : Value} {ts : List (List UInt8 × List UInt8)} {e : Option Nat} (h : QL w0 w S B l m fd v ts e) (m' : List UInt8) : QL w0 (w.setCell ⟨S + 1 + 1, 0, none⟩ (strV m')) S B l m' fd v ts e := by
  have hs := h.sb
  exact ⟨h.below.setCell (p := ⟨S + 1 + 1, 0, none⟩) (by show S ≤ S + 1 + 1; omega) _, hs, by simp only [size_set]; exact h.blt, h.o.set (i := 0) _ (by simp), h.r.far _ (by omega), h.d.far _ (by omega), h.b.far _ (by omega), fun R i hR => by rw [World.frozen?_setCell]; exact h.f R i hR, own_low _ h.own (by omega)⟩
theorem QL.setF {w0 w : World} {S B : Nat} {l m fd : List UInt8} {v : Value} {ts : List (List UInt8 × List UInt8)} {e : Option Nat} (h : QL w0 w S B l m fd v ts e) (f' : List UInt8) : QL w0 (w.setCell ⟨S + 1 + 1, 2, none⟩ (strV f')) S B l m f' v ts e := by
  have hs := h.sb
  exact ⟨h.below.setCell (p := ⟨S + 1 + 1, 2, none⟩) (by show S ≤ S + 1 + 1; omega) _, hs, by simp only [size_set]; exact h.blt, h.o.set (i := 2) _ (by simp), h.r.far _ (by omega), h.d.far _ (by omega), h.b.far _ (by omega), fun R i hR => by rw [World.frozen?_setCell]; exact h.f R i hR, own_low _ h.own (by omega)⟩
theorem QL.push {w0 w w2 : World} {S B : Nat} {l m fd : List UInt8} {v v' : Value} {ts : List (List UInt8 × List UInt8)} {e : Option Nat} {a b : List UInt8} (h : QL w0 w S B l m fd v ts e)
    (ho : w2.ownsRow (B + 1) 70 2 v' (ts.length + 1) (tagC ts ++ [strV a, strV b])) (hg : w.grownBy w2 v.ownBlock) : QL w0 (w2.setCell ⟨S + 1 + 1, 1, none⟩ v') S B l m fd v' (ts ++ [(a, b)]) e := by
  have hs := h.sb
  have hb := h.blt
  have hv : ∀ x, x ≤ B → some x ≠ v.ownBlock := fun x hx e => by have := (h.own.lt _ e.symm).1; omega
  refine ⟨?_, hs, by rw [size_set]; exact Nat.lt_of_lt_of_le hb hg.size, ?_, ?_, ?_, ?_, fun R i hR => ?_, ?_⟩
  · exact (below_own h.below hg (fun g e => by have := (h.own.lt _ e).1; omega) (by omega)).setCell (p := ⟨S + 1 + 1, 1, none⟩) (by show S ≤ S + 1 + 1; omega) _
  · exact (h.o.grown hg (hv _ (by omega))).set (i := 1) _ (by simp)
  · exact (h.r.grown hg (hv _ (by omega))).far _ (by omega)
  · exact (h.d.grown hg (hv _ (by omega))).far _ (by omega)
  · exact (h.b.grown hg (hv _ (by omega))).far _ (by omega)
  · rw [World.frozen?_setCell, hg.frozen_far ⟨R, i, none⟩ (by show R < _; omega) (hv _ (by show R ≤ B; omega))]; exact h.f R i hR
  · have hk := own_low (R := S + 1 + 1) (i := 1) v' ho (by omega)
    rw [tagC_snoc, List.length_append]
    exact hk
theorem QL.far {w0 w w2 : World} {S B : Nat} {l m fd : List UInt8} {v : Value} {ts : List (List UInt8 × List UInt8)} {e : Option Nat} (h : QL w0 w S B l m fd v ts e) (hg : w.grownBy w2 v.ownBlock) : w2.cell? ⟨S + 1 + 1, 1, none⟩ = some v ∧ (∀ i, w2.frozen? ⟨S + 1 + 1, i, none⟩ = false) ∧ S + 1 + 1 < w2.heap.size := by
  have hs := h.sb
  have hb := h.blt
  have hv : some (S + 1 + 1) ≠ v.ownBlock := fun e => by have := (h.own.lt _ e.symm).1; omega
  exact ⟨hg.cell (h.o 1 v rfl) hv, fun i => by rw [hg.frozen_far ⟨S + 1 + 1, i, none⟩ (by show S + 1 + 1 < _; omega) hv]; exact h.f _ i (by omega), Nat.lt_of_lt_of_le (by omega) hg.size⟩
/-- the results -/
theorem QL.fin {w0 w : World} {S B : Nat} {l m fd : List UInt8} {v : Value} {ts : List (List UInt8 × List UInt8)} {e : Option Nat} (h : QL w0 w S B l m fd v ts e) (x0 x1 x2 y0 y1 y2 y3 y4 : Value) :
    CA ((((((((w.setCell ⟨S, 0, none⟩ x0).setCell ⟨S, 1, none⟩ x1).setCell ⟨S, 2, none⟩ x2).setCell ⟨S + 1, 0, none⟩ y0).setCell ⟨S + 1, 1, none⟩ y1).setCell ⟨S + 1, 2, none⟩ y2).setCell ⟨S + 1, 3, none⟩ y3).setCell ⟨S + 1, 4, none⟩ y4) S [x0, x1, x2] ∧
    CA ((((((((w.setCell ⟨S, 0, none⟩ x0).setCell ⟨S, 1, none⟩ x1).setCell ⟨S, 2, none⟩ x2).setCell ⟨S + 1, 0, none⟩ y0).setCell ⟨S + 1, 1, none⟩ y1).setCell ⟨S + 1, 2, none⟩ y2).setCell ⟨S + 1, 3, none⟩ y3).setCell ⟨S + 1, 4, none⟩ y4) (S + 1) [y0, y1, y2, y3, y4] ∧
    Below S w0 ((((((((w.setCell ⟨S, 0, none⟩ x0).setCell ⟨S, 1, none⟩ x1).setCell ⟨S, 2, none⟩ x2).setCell ⟨S + 1, 0, none⟩ y0).setCell ⟨S + 1, 1, none⟩ y1).setCell ⟨S + 1, 2, none⟩ y2).setCell ⟨S + 1, 3, none⟩ y3).setCell ⟨S + 1, 4, none⟩ y4) ∧
    World.ownsRow ((((((((w.setCell ⟨S, 0, none⟩ x0).setCell ⟨S, 1, none⟩ x1).setCell ⟨S, 2, none⟩ x2).setCell ⟨S + 1, 0, none⟩ y0).setCell ⟨S + 1, 1, none⟩ y1).setCell ⟨S + 1, 2, none⟩ y2).setCell ⟨S + 1, 3, none⟩ y3).setCell ⟨S + 1, 4, none⟩ y4) (B + 1) 70 2 v ts.length (tagC ts) := by
  have hs := h.sb
  refine ⟨?_, ?_, ?_, ?_⟩
  · have hc := ((h.r.set (i := 0) x0 (by simp)).set (i := 1) x1 (by simp)).set (i := 2) x2 (by simp)
    exact ((((hc.far y0 (by omega)).far y1 (by omega)).far y2 (by omega)).far y3 (by omega)).far y4 (by omega)
  · have hd := ((h.d.far (B := S) (i := 0) x0 (by omega)).far (B := S) (i := 1) x1 (by omega)).far (B := S) (i := 2) x2 (by omega)
    exact ((((hd.set (i := 0) y0 (by simp [bE])).set (i := 1) y1 (by simp [bE])).set (i := 2) y2 (by simp [bE])).set (i := 3) y3 (by simp [bE])).set (i := 4) y4 (by simp [bE])
  · exact (((((((h.below.setCell (p := ⟨S, 0, none⟩) (Nat.le_refl _) _).setCell (p := ⟨S, 1, none⟩) (Nat.le_refl _) _).setCell (p := ⟨S, 2, none⟩) (Nat.le_refl _) _).setCell (p := ⟨S + 1, 0, none⟩) (by show S ≤ S + 1; omega) _).setCell (p := ⟨S + 1, 1, none⟩) (by show S ≤ S + 1; omega) _).setCell (p := ⟨S + 1, 2, none⟩) (by show S ≤ S + 1; omega) _).setCell (p := ⟨S + 1, 3, none⟩) (by show S ≤ S + 1; omega) _).setCell (p := ⟨S + 1, 4, none⟩) (by show S ≤ S + 1; omega) _
  · exact own_low _ (own_low _ (own_low _ (own_low _ (own_low _ (own_low _ (own_low _ (own_low _ h.own (by omega)) (by omega)) (by omega)) (by omega)) (by omega)) (by omega)) (by omega)) (by omega)
theorem put_sb {w0 w : World} {S : Nat} (x0 x1 x2 y0 y1 y2 y3 y4 : Value) (hr : CA w S [strV [], .slice none 0 0, strV []]) (hd : CA w (S + 1) (bE none)) (hb : Below S w0 w) :
    CA ((((((((w.setCell ⟨S, 0, none⟩ x0).setCell ⟨S, 1, none⟩ x1).setCell ⟨S, 2, none⟩ x2).setCell ⟨S + 1, 0, none⟩ y0).setCell ⟨S + 1, 1, none⟩ y1).setCell ⟨S + 1, 2, none⟩ y2).setCell ⟨S + 1, 3, none⟩ y3).setCell ⟨S + 1, 4, none⟩ y4) S [x0, x1, x2] ∧ CA ((((((((w.setCell ⟨S, 0, none⟩ x0).setCell ⟨S, 1, none⟩ x1).setCell ⟨S, 2, none⟩ x2).setCell ⟨S + 1, 0, none⟩ y0).setCell ⟨S + 1, 1, none⟩ y1).setCell ⟨S + 1, 2, none⟩ y2).setCell ⟨S + 1, 3, none⟩ y3).setCell ⟨S + 1, 4, none⟩ y4) (S + 1) [y0, y1, y2, y3, y4] ∧ Below S w0 ((((((((w.setCell ⟨S, 0, none⟩ x0).setCell ⟨S, 1, none⟩ x1).setCell ⟨S, 2, none⟩ x2).setCell ⟨S + 1, 0, none⟩ y0).setCell ⟨S + 1, 1, none⟩ y1).setCell ⟨S + 1, 2, none⟩ y2).setCell ⟨S + 1, 3, none⟩ y3).setCell ⟨S + 1, 4, none⟩ y4) := by
  refine ⟨?_, ?_, ?_⟩
  · have hc := ((hr.set (i := 0) x0 (by simp)).set (i := 1) x1 (by simp)).set (i := 2) x2 (by simp)
    exact ((((hc.far y0 (by omega)).far y1 (by omega)).far y2 (by omega)).far y3 (by omega)).far y4 (by omega)
  · have hd := ((hd.far (B := S) (i := 0) x0 (by omega)).far (B := S) (i := 1) x1 (by omega)).far (B := S) (i := 2) x2 (by omega)
    exact ((((hd.set (i := 0) y0 (by simp [bE])).set (i := 1) y1 (by simp [bE])).set (i := 2) y2 (by simp [bE])).set (i := 3) y3 (by simp [bE])).set (i := 4) y4 (by simp [bE])
  · exact (((((((hb.setCell (p := ⟨S, 0, none⟩) (Nat.le_refl _) _).setCell (p := ⟨S, 1, none⟩) (Nat.le_refl _) _).setCell (p := ⟨S, 2, none⟩) (Nat.le_refl _) _).setCell (p := ⟨S + 1, 0, none⟩) (by show S ≤ S + 1; omega) _).setCell (p := ⟨S + 1, 1, none⟩) (by show S ≤ S + 1; omega) _).setCell (p := ⟨S + 1, 2, none⟩) (by show S ≤ S + 1; omega) _).setCell (p := ⟨S + 1, 3, none⟩) (by show S ≤ S + 1; omega) _).setCell (p := ⟨S + 1, 4, none⟩) (by show S ≤ S + 1; omega) _
theorem QL.setC {w0 w : World} {S B : Nat} {l m fd : List UInt8} {v : Value} {ts : List (List UInt8 × List UInt8)} {e : Option Nat} (h : QL w0 w S B l m fd v ts e) (x0 x1 x2 x3 x4 : Value) :
    CA (((((w.setCell ⟨B, 0, none⟩ x0).setCell ⟨B, 1, none⟩ x1).setCell ⟨B, 2, none⟩ x2).setCell ⟨B, 3, none⟩ x3).setCell ⟨B, 4, none⟩ x4) S [strV [], .slice none 0 0, strV []] ∧ CA (((((w.setCell ⟨B, 0, none⟩ x0).setCell ⟨B, 1, none⟩ x1).setCell ⟨B, 2, none⟩ x2).setCell ⟨B, 3, none⟩ x3).setCell ⟨B, 4, none⟩ x4) (S + 1) (bE none) ∧ CA (((((w.setCell ⟨B, 0, none⟩ x0).setCell ⟨B, 1, none⟩ x1).setCell ⟨B, 2, none⟩ x2).setCell ⟨B, 3, none⟩ x3).setCell ⟨B, 4, none⟩ x4) B [x0, x1, x2, x3, x4] ∧ Below S w0 (((((w.setCell ⟨B, 0, none⟩ x0).setCell ⟨B, 1, none⟩ x1).setCell ⟨B, 2, none⟩ x2).setCell ⟨B, 3, none⟩ x3).setCell ⟨B, 4, none⟩ x4) ∧ (∀ R i, (R = S ∨ R = S + 1) → World.frozen? (((((w.setCell ⟨B, 0, none⟩ x0).setCell ⟨B, 1, none⟩ x1).setCell ⟨B, 2, none⟩ x2).setCell ⟨B, 3, none⟩ x3).setCell ⟨B, 4, none⟩ x4) ⟨R, i, none⟩ = false) := by
  have hs := h.sb
  have hlen : (bE e).length = 5 := by cases e <;> rfl
  refine ⟨?_, ?_, ?_, ?_, fun R i hR => by simp only [World.frozen?_setCell]; exact h.f R i (by omega)⟩
  · exact ((((h.r.far _ (by omega)).far _ (by omega)).far _ (by omega)).far _ (by omega)).far _ (by omega)
  · exact ((((h.d.far _ (by omega)).far _ (by omega)).far _ (by omega)).far _ (by omega)).far _ (by omega)
  · have hc := ((((h.b.set (i := 0) x0 (by omega)).set (i := 1) x1 (by simp; omega)).set (i := 2) x2 (by simp; omega)).set (i := 3) x3 (by simp; omega)).set (i := 4) x4 (by simp; omega)
    have he : (((((bE e).set 0 x0).set 1 x1).set 2 x2).set 3 x3).set 4 x4 = [x0, x1, x2, x3, x4] := by cases e <;> rfl
    rwa [he] at hc
  · exact ((((h.below.setCell (p := ⟨B, 0, none⟩) (by show S ≤ B; omega) _).setCell (p := ⟨B, 1, none⟩) (by show S ≤ B; omega) _).setCell (p := ⟨B, 2, none⟩) (by show S ≤ B; omega) _).setCell (p := ⟨B, 3, none⟩) (by show S ≤ B; omega) _).setCell (p := ⟨B, 4, none⟩) (by show S ≤ B; omega) _
/-- .. and a tag's box T beside -/
structure TQ (w0 w : World) (S B T : Nat) (l m : List UInt8) (v : Value) (ts : List (List UInt8 × List UInt8)) (e : Option Nat) (x0 x1 : List UInt8) : Prop where
  q : QL w0 w S B l m [] v ts e
  t : CA w T [strV x0, strV x1]
  tf : ∀ i, w.frozen? ⟨T, i, none⟩ = false
  tb : B < T
  tl : T < w.heap.size
  tv : v.ownBlock ≠ some T
theorem TQ.new {w0 w : World} {S B : Nat} {l m : List UInt8} {v : Value} {ts : List (List UInt8 × List UInt8)} {e : Option Nat} (h : QL w0 w S B l m [] v ts e) : TQ w0 (w.alloc (.cells #[strV [], strV []] 70)) S B w.heap.size l m v ts e [] [] where
  q := h.step (below1 _ _)
  t := CA.alloc w [strV [], strV []] _
  tf := fun i => World.frozen?_alloc_at _ _ _ _ rfl
  tb := h.blt
  tl := by simp only [heap_push, Array.size_push]; omega
  tv := fun e => by have := (h.own.lt _ e).2; omega
theorem TQ.step {w0 w w' : World} {S B T : Nat} {l m : List UInt8} {v : Value} {ts : List (List UInt8 × List UInt8)} {e : Option Nat} {x0 x1 : List UInt8} (h : TQ w0 w S B T l m v ts e x0 x1) (hb : Below w.heap.size w w') : TQ w0 w' S B T l m v ts e x0 x1 where
  q := h.q.step hb
  t := h.t.grown (grown_below hb none) (by simp)
  tf := fun i => by rw [hb.frozen (p := ⟨T, i, none⟩) h.tl]; exact h.tf i
  tb := h.tb
  tl := Nat.lt_of_lt_of_le h.tl hb.size
  tv := h.tv
theorem TQ.key {w0 w : World} {S B T : Nat} {l m : List UInt8} {v : Value} {ts : List (List UInt8 × List UInt8)} {e : Option Nat} {x0 x1 : List UInt8} (h : TQ w0 w S B T l m v ts e x0 x1) (u : List UInt8) : TQ w0 (w.setCell ⟨T, 0, none⟩ (strV u)) S B T l m v ts e u x1 where
  q := h.q.setT _ h.tb h.tv
  t := h.t.set (i := 0) _ (by simp)
  tf := fun i => by rw [World.frozen?_setCell]; exact h.tf i
  tb := h.tb
  tl := by rw [size_set]; exact h.tl
  tv := h.tv
theorem TQ.val {w0 w : World} {S B T : Nat} {l m : List UInt8} {v : Value} {ts : List (List UInt8 × List UInt8)} {e : Option Nat} {x0 x1 : List UInt8} (h : TQ w0 w S B T l m v ts e x0 x1) (u : List UInt8) : TQ w0 (w.setCell ⟨T, 1, none⟩ (strV u)) S B T l m v ts e x0 u where
  q := h.q.setT _ h.tb h.tv
  t := h.t.set (i := 1) _ (by simp)
  tf := fun i => by rw [World.frozen?_setCell]; exact h.tf i
  tb := h.tb
  tl := by rw [size_set]; exact h.tl
  tv := h.tv
theorem TQ.bad {w0 w : World} {S B T : Nat} {l m : List UInt8} {v : Value} {ts : List (List UInt8 × List UInt8)} {e : Option Nat} {x0 x1 : List UInt8} (h : TQ w0 w S B T l m v ts e x0 x1) (e' : Option Nat) (y0 y1 y2 y3 y4 : Value) (hx : bE e' = [y0, y1, y2, y3, y4]) :
    TQ w0 (((((w.setCell ⟨B, 0, none⟩ y0).setCell ⟨B, 1, none⟩ y1).setCell ⟨B, 2, none⟩ y2).setCell ⟨B, 3, none⟩ y3).setCell ⟨B, 4, none⟩ y4) S B T l m v ts e' x0 x1 where
  q := h.q.setB e' _ _ _ _ _ hx
  t := by
    have hb := h.tb
    exact ((((h.t.far _ (by omega)).far _ (by omega)).far _ (by omega)).far _ (by omega)).far _ (by omega)
  tf := fun i => by simp only [World.frozen?_setCell]; exact h.tf i
  tb := h.tb
  tl := by simp only [size_set]; exact h.tl
  tv := h.tv
end
end Go.Proofs.YtbaopcpmmdmomaaGreatDoor
