/- The order of series is an order: antisymmetric and transitive. -/
import Derived.Test.YtbaopcpmmdmomaaGreatDoorKeyU
set_option linter.unusedSimpArgs false
set_option linter.unusedVariables false
namespace Go.Proofs.YtbaopcpmmdmomaaGreatDoor
open Go.RowKit
/-- how three signs of an order stand -/
structure Tri (x y z : Int) : Prop where
  le : ¬(x ≤ 0 ∧ y ≤ 0 ∧ 0 < z)
  lt1 : ¬(x < 0 ∧ y ≤ 0 ∧ 0 ≤ z)
  lt2 : ¬(x ≤ 0 ∧ y < 0 ∧ 0 ≤ z)
  eq : ¬(x = 0 ∧ y = 0 ∧ z ≠ 0)
def lex2 (x y : Int) : Int := if x = 0 then y else x
theorem Tri.lex {x y z x' y' z' : Int} (h : Tri x y z) (h' : Tri x' y' z') : Tri (lex2 x x') (lex2 y y') (lex2 z z') := by
  obtain ⟨a1, a2, a3, a4⟩ := h
  obtain ⟨b1, b2, b3, b4⟩ := h'
  unfold lex2
  constructor <;> (repeat' split) <;> omega
theorem lex2_neg (x y : Int) : lex2 (-x) (-y) = -lex2 x y := by
  unfold lex2
  by_cases h : x = 0
  · rw [if_pos (by omega), if_pos h]
  · rw [if_neg (by omega), if_neg h]
structure Good {α : Type} (c : α → α → Int) : Prop where
  anti : ∀ a b, c a b = -c b a
  tri : ∀ a b d, Tri (c a b) (c b d) (c a d)
def cmpRows {α : Type} (c : α → α → Int) : List α → List α → Int
  | [], [] => 0
  | [], _ :: _ => -1
  | _ :: _, [] => 1
  | a :: r, b :: s => lex2 (c a b) (cmpRows c r s)
theorem Good.rows {α : Type} {c : α → α → Int} (h : Good c) : Good (cmpRows c) := by
  refine ⟨?_, ?_⟩
  · intro a
    induction a with
    | nil => intro b; cases b <;> rfl
    | cons x r ih =>
      intro b
      cases b with
      | nil => rfl
      | cons y s => simp only [cmpRows]; rw [ih s, h.anti x y, lex2_neg]
  · intro a
    induction a with
    | nil =>
      intro b d
      cases b <;> cases d <;> simp only [cmpRows] <;> constructor <;> omega
    | cons x r ih =>
      intro b d
      cases b with
      | nil => cases d <;> simp only [cmpRows] <;> constructor <;> omega
      | cons y s =>
        cases d with
        | nil => simp only [cmpRows]; constructor <;> omega
        | cons z t => simp only [cmpRows]; exact (h.tri x y z).lex (ih s t)
theorem Good.lex {α : Type} {c d : α → α → Int} (h : Good c) (g : Good d) : Good (fun a b => lex2 (c a b) (d a b)) :=
  ⟨fun a b => by show lex2 (c a b) (d a b) = _; rw [h.anti a b, g.anti a b, lex2_neg], fun a b e => (h.tri a b e).lex (g.tri a b e)⟩
theorem Good.at {α β : Type} {c : α → α → Int} (h : Good c) (f : β → α) : Good (fun a b => c (f a) (f b)) := ⟨fun a b => h.anti _ _, fun a b d => h.tri _ _ _⟩
def cmpU (a b : UInt8) : Int := if a < b then -1 else if b < a then 1 else 0
theorem cmpU_good : Good cmpU := by
  refine ⟨fun a b => ?_, fun a b d => ?_⟩
  · unfold cmpU; simp only [UInt8.lt_iff_toNat_lt]; repeat' split <;> omega
  · unfold cmpU; simp only [UInt8.lt_iff_toNat_lt]; constructor <;> (repeat' split) <;> omega
theorem cmpL_rows : ∀ (a b : List UInt8), cmpL a b = cmpRows cmpU a b := by
  intro a
  induction a with
  | nil => intro b; cases b <;> rfl
  | cons x r ih =>
    intro b
    cases b with
    | nil => rfl
    | cons y s =>
      simp only [cmpRows]
      rw [← ih s]
      unfold cmpL lex2 cmpU
      rw [bytesLess_eq, bytesLess_eq]
      simp only [List.cons_lt_cons_iff]
      by_cases h1 : x < y
      · have : x ≠ y := by rintro rfl; simp [UInt8.lt_iff_toNat_lt] at h1
        simp [h1]
      · by_cases h2 : y < x
        · have : x ≠ y := by rintro rfl; simp [UInt8.lt_iff_toNat_lt] at h2
          simp [h1, h2, this]
        · have : x = y := by
            apply UInt8.toNat_inj.mp; simp only [UInt8.lt_iff_toNat_lt] at h1 h2; omega
          subst this
          simp [h1]
theorem cmpL_good : Good cmpL := by
  have : cmpL = cmpRows cmpU := by funext a b; exact cmpL_rows a b
  rw [this]; exact cmpU_good.rows
def rowL (k v : Nat → List UInt8) : Nat → Nat → List (List UInt8 × List UInt8)
  | 0, _ => []
  | c + 1, i => (k i, v i) :: rowL k v c (i + 1)
def cmpP (a b : List UInt8 × List UInt8) : Int := lex2 (cmpL a.1 b.1) (cmpL a.2 b.2)
theorem cmpP_good : Good cmpP := (cmpL_good.at Prod.fst).lex (cmpL_good.at Prod.snd)
theorem cmpFrom_rows (k1 v1 k2 v2 : Nat → List UInt8) (n1 n2 : Nat) : ∀ (c i : Nat), i + c = min n1 n2 → cmpFrom k1 v1 k2 v2 n1 n2 c i = cmpRows cmpP (rowL k1 v1 (n1 - i) i) (rowL k2 v2 (n2 - i) i) := by
  intro c
  induction c with
  | zero =>
    intro i hi
    simp only [cmpFrom]
    by_cases h1 : n1 < n2
    · rw [if_pos h1, show n1 - i = 0 by omega, show n2 - i = (n2 - i - 1) + 1 by omega]; rfl
    · by_cases h2 : n2 < n1
      · rw [if_neg h1, if_pos h2, show n2 - i = 0 by omega, show n1 - i = (n1 - i - 1) + 1 by omega]; rfl
      · rw [if_neg h1, if_neg h2, show n1 - i = 0 by omega, show n2 - i = 0 by omega]; rfl
  | succ c ih =>
    intro i hi
    rw [show n1 - i = (n1 - (i + 1)) + 1 by omega, show n2 - i = (n2 - (i + 1)) + 1 by omega]
    simp only [cmpFrom, rowL, cmpRows]
    rw [← ih (i + 1) (by omega)]
    unfold cmpP lex2
    by_cases h1 : cmpL (k1 i) (k2 i) = 0
    · simp only [h1, if_true]
    · simp only [h1, if_false]
theorem cmpT_rows (k1 v1 k2 v2 : Nat → List UInt8) (n1 n2 : Nat) : cmpT k1 v1 k2 v2 n1 n2 = cmpRows cmpP (rowL k1 v1 n1 0) (rowL k2 v2 n2 0) := cmpFrom_rows k1 v1 k2 v2 n1 n2 _ 0 (by omega)
/-- a series as plain data -/
structure Ser where
  m : List UInt8
  t : List (List UInt8 × List UInt8)
  f : List UInt8
def cmpSer (a b : Ser) : Int := lex2 (cmpL a.m b.m) (lex2 (cmpRows cmpP a.t b.t) (cmpL a.f b.f))
theorem cmpSer_good : Good cmpSer := (cmpL_good.at Ser.m).lex ((cmpP_good.rows.at Ser.t).lex (cmpL_good.at Ser.f))
theorem cmpS_ser (m : List UInt8) (n : Nat) (tk tv : Nat → List UInt8) (f m' : List UInt8) (n' : Nat) (tk' tv' : Nat → List UInt8) (f' : List UInt8) : cmpS m n tk tv f m' n' tk' tv' f' = cmpSer ⟨m, rowL tk tv n 0, f⟩ ⟨m', rowL tk' tv' n' 0, f'⟩ := by
  unfold cmpS cmpSer
  rw [cmpT_rows]
  simp only [orL, lex2]
  by_cases h : cmpL f f' = 0 <;> simp only [h, if_true, if_false]
def Sgn (x : Int) : Prop := -1 ≤ x ∧ x ≤ 1
theorem lex2_sgn {x y : Int} (h : Sgn x) (g : Sgn y) : Sgn (lex2 x y) := by unfold lex2; split; exact g; exact h
theorem rows_sgn {α : Type} {c : α → α → Int} (h : ∀ a b, Sgn (c a b)) : ∀ a b, Sgn (cmpRows c a b) := by
  intro a
  induction a with
  | nil => intro b; cases b <;> (unfold Sgn; simp [cmpRows])
  | cons x r ih =>
    intro b
    cases b with
    | nil => unfold Sgn; simp [cmpRows]
    | cons y s => simp only [cmpRows]; exact lex2_sgn (h _ _) (ih s)
theorem cmpSer_sgn (a b : Ser) : Sgn (cmpSer a b) := lex2_sgn (cmpL_range _ _) (lex2_sgn (rows_sgn (fun a b => lex2_sgn (cmpL_range _ _) (cmpL_range _ _)) _ _) (cmpL_range _ _))
end Go.Proofs.YtbaopcpmmdmomaaGreatDoor
