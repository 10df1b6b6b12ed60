/- Texts, and what of them is right: the plain law; the reference's Wide. -/
import Derived.Test.YtbaopcpmmdmomaaGreatDoorSame
import Derived.Lib.ValidLaws
import Derived.Lib.TrimUEq
import Derived.Shelf.GgClosure.StringsIndexFunc
import Derived.WalkSpells
set_option linter.unusedSimpArgs false
set_option linter.unusedVariables false
namespace Go.Proofs.YtbaopcpmmdmomaaGreatDoor
open Go.RowKit
/-- a fact, put away -/
structure Bx (p : Prop) : Prop where
  out : p
/-- a text as a value -/
abbrev strV (l : List UInt8) : Value := .string ⟨l.toArray⟩
/-- how wide the sequence at the front of a text is; 0: none -/
def wideL (l : List UInt8) : Nat := if l = [] then 0 else if (Lib.decodeL l).1 = 65533 ∧ (Lib.decodeL l).2 = 1 then 0 else (Lib.decodeL l).2
theorem wideL_nil : wideL [] = 0 := by unfold wideL; rw [if_pos rfl]
theorem wideL_le (l : List UInt8) : wideL l ≤ l.length := by
  unfold wideL
  split
  · omega
  · split
    · omega
    · exact Lib.decodeL_le l ‹_›
/-- is the byte at a place one that continues a sequence? -/
def cont (l : List UInt8) (i : Nat) : Prop := i < l.length ∧ 128 ≤ (l.getD i 0).toNat ∧ (l.getD i 0).toNat < 192
/-- the classes of first bytes: how wide, the least number, what the first byte bears -/
def Cls (b n least v0 : Nat) : Prop := (194 ≤ b ∧ b < 224 ∧ n = 2 ∧ least = 128 ∧ v0 = b - 192) ∨ (224 ≤ b ∧ b < 240 ∧ n = 3 ∧ least = 2048 ∧ v0 = b - 224) ∨ (240 ≤ b ∧ b < 245 ∧ n = 4 ∧ least = 65536 ∧ v0 = b - 240)
/-- the number of the first k bytes -/
def val (l : List UInt8) (v0 : Nat) : Nat → Nat
  | 0 => v0
  | k + 1 => if k = 0 then v0 else val l v0 k * 64 + ((l.getD k 0).toNat - 128)
theorem val_one (l : List UInt8) (v0 : Nat) : val l v0 1 = v0 := rfl
theorem val_succ (l : List UInt8) (v0 k : Nat) (h : 1 ≤ k) : val l v0 (k + 1) = val l v0 k * 64 + ((l.getD k 0).toNat - 128) := by
  simp only [val]; rw [if_neg (by omega)]
theorem wide_none {l : List UInt8} (h : l ≠ []) (e : Lib.decodeL l = (65533, 1)) : wideL l = 0 := by
  unfold wideL; rw [if_neg h, e, if_pos ⟨rfl, rfl⟩]
theorem wide_some {l : List UInt8} {r k : Nat} (h : l ≠ []) (e : Lib.decodeL l = (r, k)) (hn : ¬ (r = 65533 ∧ k = 1)) : wideL l = k := by
  unfold wideL; rw [if_neg h, e, if_neg hn]
theorem wide_lo {l : List UInt8} (h : l ≠ []) (hb : (l.getD 0 0).toNat < 128) : wideL l = 1 := by
  refine wide_some (r := (l.getD 0 0).toNat) h ?_ (by omega)
  rw [Lib.decodeL_N]
  unfold Lib.decodeN
  rw [if_pos hb]
theorem wide_bad {l : List UInt8} (h : l ≠ []) (hb : (128 ≤ (l.getD 0 0).toNat ∧ (l.getD 0 0).toNat < 194) ∨ 245 ≤ (l.getD 0 0).toNat) : wideL l = 0 := by
  refine wide_none h ?_
  rw [Lib.decodeL_N]
  have h256 := (l.getD 0 0).toNat_lt
  generalize (l.getD 0 0).toNat = b0 at *
  generalize (l.getD 1 0).toNat = b1 at *
  generalize (l.getD 2 0).toNat = b2 at *
  generalize (l.getD 3 0).toNat = b3 at *
  unfold Lib.decodeN
  rw [if_neg (by omega)]
  repeat' split
  all_goals first | rfl | (exfalso; omega)
theorem wide_fail {l : List UInt8} {n least v0 k : Nat} (h : l ≠ []) (hc : Cls (l.getD 0 0).toNat n least v0) (h1 : 1 ≤ k) (hk : k < n) (hn : ¬ cont l k) : wideL l = 0 := by
  refine wide_none h ?_
  rw [Lib.decodeL_N]
  unfold cont at hn
  have hlen : 0 < l.length := List.length_pos_iff.2 h
  have e : k = 1 ∨ k = 2 ∨ k = 3 := by unfold Cls at hc; omega
  have hb1 := (l.getD 1 0).toNat_lt
  have hb2 := (l.getD 2 0).toNat_lt
  have hb3 := (l.getD 3 0).toNat_lt
  rcases e with rfl | rfl | rfl <;>
  · generalize (l.getD 0 0).toNat = b0 at *
    generalize (l.getD 1 0).toNat = b1 at *
    generalize (l.getD 2 0).toNat = b2 at *
    generalize (l.getD 3 0).toNat = b3 at *
    unfold Cls at hc
    unfold Lib.decodeN
    rw [if_neg (by omega)]
    repeat' split
    all_goals first | rfl | (exfalso; omega)
set_option maxRecDepth 100000 in
theorem wide_done {l : List UInt8} {n least v0 : Nat} (h : l ≠ []) (hc : Cls (l.getD 0 0).toNat n least v0) (hk : ∀ j, 1 ≤ j → j < n → cont l j) :
    wideL l = if val l v0 n < least ∨ (55296 ≤ val l v0 n ∧ val l v0 n < 57344) ∨ 1114111 < val l v0 n then 0 else n := by
  have hb1 := (l.getD 1 0).toNat_lt
  have hb2 := (l.getD 2 0).toNat_lt
  have hb3 := (l.getD 3 0).toNat_lt
  have hN := Lib.decodeL_N l
  unfold cont at hk
  unfold Cls at hc
  rcases hc with ⟨c1, c2, rfl, rfl, rfl⟩ | ⟨c1, c2, rfl, rfl, rfl⟩ | ⟨c1, c2, rfl, rfl, rfl⟩
  · have k1 := hk 1 (by omega) (by omega)
    rw [val_succ _ _ _ (by omega), val_one]
    generalize (l.getD 0 0).toNat = b0 at *
    generalize (l.getD 1 0).toNat = b1 at *
    generalize (l.getD 2 0).toNat = b2 at *
    generalize (l.getD 3 0).toNat = b3 at *
    unfold Lib.decodeN at hN
    rw [if_neg (by omega), if_pos (by omega), if_pos (by omega)] at hN
    split
    · exfalso; omega
    · exact wide_some h hN (by omega)
  · have k1 := hk 1 (by omega) (by omega)
    have k2 := hk 2 (by omega) (by omega)
    rw [val_succ _ _ 2 (by omega), val_succ _ _ 1 (by omega), val_one]
    generalize (l.getD 0 0).toNat = b0 at *
    generalize (l.getD 1 0).toNat = b1 at *
    generalize (l.getD 2 0).toNat = b2 at *
    generalize (l.getD 3 0).toNat = b3 at *
    unfold Lib.decodeN at hN
    rw [if_neg (by omega), if_neg (by omega), if_pos (by omega)] at hN
    split
    · rw [if_neg (by omega)] at hN
      exact wide_none h hN
    · rw [if_pos (by omega)] at hN
      exact wide_some h hN (by omega)
  · have k1 := hk 1 (by omega) (by omega)
    have k2 := hk 2 (by omega) (by omega)
    have k3 := hk 3 (by omega) (by omega)
    rw [val_succ _ _ 3 (by omega), val_succ _ _ 2 (by omega), val_succ _ _ 1 (by omega), val_one]
    generalize (l.getD 0 0).toNat = b0 at *
    generalize (l.getD 1 0).toNat = b1 at *
    generalize (l.getD 2 0).toNat = b2 at *
    generalize (l.getD 3 0).toNat = b3 at *
    unfold Lib.decodeN at hN
    rw [if_neg (by omega), if_neg (by omega), if_neg (by omega), if_pos (by omega)] at hN
    split
    · rw [if_neg (by omega)] at hN
      exact wide_none h hN
    · rw [if_pos (by omega)] at hN
      exact wide_some h hN (by omega)
/-- valid, without the bytes below 32 and 127 -/
def goodL (l : List UInt8) : Bool :=
  if h : l = [] then true else if hw : wideL l = 0 ∨ (l.getD 0 0).toNat < 32 ∨ (l.getD 0 0).toNat = 127 then false else goodL (l.drop (wideL l))
termination_by l.length
decreasing_by
  have := List.length_pos_iff.2 h
  rw [List.length_drop]; omega
theorem goodL_nil : goodL [] = true := by rw [goodL, dif_pos rfl]
theorem goodL_bad {l : List UInt8} (h : l ≠ []) (hw : wideL l = 0 ∨ (l.getD 0 0).toNat < 32 ∨ (l.getD 0 0).toNat = 127) : goodL l = false := by rw [goodL, dif_neg h, dif_pos hw]
theorem goodL_step {l : List UInt8} (h : l ≠ []) (hw : ¬ (wideL l = 0 ∨ (l.getD 0 0).toNat < 32 ∨ (l.getD 0 0).toNat = 127)) : goodL l = goodL (l.drop (wideL l)) := by rw [goodL, dif_neg h, dif_neg hw]
/-- a text of 1 to so many bytes, valid, without controls -/
def rightB (l : List UInt8) (most : Nat) : Bool := !l.isEmpty && decide (l.length ≤ most) && goodL l
/-- the runes that are controls -/
def ctl (r : Nat) : Bool := decide (r < 32) || r == 127
theorem good_key : ∀ (n : Nat) (l : List UInt8), l.length ≤ n → ∀ (s : ByteArray) (pos f : Nat), s.data.toList.drop pos = l → s.size ≤ pos + f →
    goodL l = (Lib.validD l && decide (Lib.idxFuncFrom ctl true s f pos = -1)) := by
  intro n
  induction n with
  | zero =>
    intro l hl s pos f hd hf
    obtain rfl : l = [] := List.length_eq_zero_iff.1 (by omega)
    have hp : ¬ pos < s.size := by
      have := congrArg List.length hd
      rw [List.length_drop, ← Lib.size_eq] at this
      simp at this; omega
    rw [goodL_nil, Lib.validD_nil, Lib.idxFuncFrom_end _ _ _ _ _ hp]
    rfl
  | succ n ih =>
    intro l hl s pos f hd hf
    by_cases h : l = []
    · subst h
      have hp : ¬ pos < s.size := by
        have := congrArg List.length hd
        rw [List.length_drop, ← Lib.size_eq] at this
        simp at this; omega
      rw [goodL_nil, Lib.validD_nil, Lib.idxFuncFrom_end _ _ _ _ _ hp]
      rfl
    · have hlen := List.length_pos_iff.2 h
      have hsz : pos + l.length = s.size := by
        have := congrArg List.length hd
        rw [List.length_drop, ← Lib.size_eq] at this
        omega
      obtain ⟨g, rfl⟩ : ∃ g, f = g + 1 := ⟨f - 1, by omega⟩
      have hdec : Utf8.decode s pos = Lib.decodeL l := by rw [← hd, Lib.decodeL_drop]
      rw [Lib.validD_step l h]
      by_cases hb : (Lib.decodeL l).1 = 65533 ∧ (Lib.decodeL l).2 = 1
      · rw [if_pos hb, goodL_bad h (.inl (by unfold wideL; rw [if_neg h, if_pos hb]))]
        rfl
      · have hw : wideL l = (Lib.decodeL l).2 := by unfold wideL; rw [if_neg h, if_neg hb]
        have hw1 := Lib.decodeL_width l
        rw [if_neg hb]
        have hfst : ((l.getD 0 0).toNat < 32 ∨ (l.getD 0 0).toNat = 127) ↔ ctl (Lib.decodeL l).1 = true := by
          rw [Lib.decodeL_N] at hb ⊢
          unfold ctl
          simp only [Bool.or_eq_true, decide_eq_true_eq, beq_iff_eq]
          generalize (l.getD 0 0).toNat = b0 at *
          generalize (l.getD 1 0).toNat = b1 at *
          generalize (l.getD 2 0).toNat = b2 at *
          generalize (l.getD 3 0).toNat = b3 at *
          unfold Lib.decodeN at hb ⊢
          by_cases h0 : b0 < 128
          · rw [if_pos h0]
          · rw [if_neg h0] at hb ⊢
            repeat' split
            all_goals (simp only; omega)
        unfold Lib.idxFuncFrom
        rw [if_pos (by omega), hdec]
        by_cases hc : ctl (Lib.decodeL l).1 = true
        · rw [goodL_bad h (.inr (hfst.2 hc)), if_pos hc]
          have : ¬ ((pos : Int) = -1) := by omega
          simp [this]
        · rw [goodL_step h (by rintro (a | a); omega; exact hc (hfst.1 a)), if_neg hc, hw]
          exact ih _ (by rw [List.length_drop]; omega) s _ g (by rw [← hd, List.drop_drop]) (by omega)
theorem good_eq (l : List UInt8) : goodL l = (Lib.validD l && !decide (0 ≤ Lib.idxFunc ctl true ⟨l.toArray⟩)) := by
  have h := good_key l.length l (Nat.le_refl _) ⟨l.toArray⟩ 0 (ByteArray.size ⟨l.toArray⟩) (by simp) (by omega)
  rw [h]
  congr 1
  unfold Lib.idxFunc
  rcases Lib.idxFuncFrom_range ctl true ⟨l.toArray⟩ (ByteArray.size ⟨l.toArray⟩) 0 with e | ⟨e, _⟩
  · rw [e]; rfl
  · have e2 : ¬ Lib.idxFuncFrom ctl true ⟨l.toArray⟩ (ByteArray.size ⟨l.toArray⟩) 0 = -1 := by omega
    have e3 : 0 ≤ Lib.idxFuncFrom ctl true ⟨l.toArray⟩ (ByteArray.size ⟨l.toArray⟩) 0 := by omega
    simp [e2, e3]
/-- the word time -/
def timeL : List UInt8 := [116, 105, 109, 101]
/-- a name, and not time -/
def wordB (l : List UInt8) : Bool := rightB l 64 && l != timeL
end Go.Proofs.YtbaopcpmmdmomaaGreatDoor
