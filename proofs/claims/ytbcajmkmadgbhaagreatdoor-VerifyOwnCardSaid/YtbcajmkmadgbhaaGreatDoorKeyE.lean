/- key.Name, Text, special, Escape; and the document's special, Escape. -/
import Derived.Test.YtbcajmkmadgbhaaGreatDoorKeyD
import Derived.WalkSpells
set_option linter.unusedSimpArgs false
set_option linter.unusedVariables false
namespace Go.Proofs.YtbcajmkmadgbhaaGreatDoor
open Go.RowKit
theorem new_any (c : Int) (w : World) (hc : 1 ≤ c) : Calls Tryz.prog 76 #[.int .i64 c] w fun e w' => e = .returned (errV c) ∧ w = w' := by
  have h : (c == 0) = false := by simp; omega
  go_enter Tryz.func76, Tryz.ntmps76
  go_wp2
  go_ret
  exact ⟨rfl, rfl⟩
/-- an error of a number, or none -/
def eV (c : Int) : Value := if c = 0 then .nilIface else errV c
theorem eV_zero : eV 0 = .nilIface := rfl
theorem eV_pos {c : Int} (h : 1 ≤ c) : eV c = errV c := by unfold eV; rw [if_neg (by omega)]
def nameC (l : List UInt8) : Int := if rightB l 64 then 0 else 50
def textC (l : List UInt8) : Int := if rightB l 256 then 0 else 51
theorem name_any (l : List UInt8) (w : World) (hl : l.length ≤ 9223372036854775807) (hG : GlobK w) :
    Calls Tryz.prog 95 #[strV l] w fun e w' => e = .returned (eV (nameC l)) ∧ Below w.heap.size w w' := by
  unfold nameC
  have kr := fun w h => right_any l 64 64 w hl rfl h
  have HGK : Bx (GlobK w) := ⟨hG⟩
  generalize rightB l 64 = R at *
  clear hl hG
  cases R
  all_goals
    go_enter Tryz.func95, Tryz.ntmps95
    go_wp2_with fail
    refine (kr _ HGK.out).mono ?_
    rintro e w1 ⟨rfl, h1⟩
    have H1 : Bx (Below w.heap.size w w1) := ⟨h1⟩
    clear h1 kr
    go_wp2_with (go_at_call 76; refine (new_any _ _ (by decide)).mono ?_; rintro e w' ⟨rfl, rfl⟩)
    go_ret
    exact ⟨rfl, H1.out⟩
theorem text_any (l : List UInt8) (w : World) (hl : l.length ≤ 9223372036854775807) (hG : GlobK w) :
    Calls Tryz.prog 109 #[strV l] w fun e w' => e = .returned (eV (textC l)) ∧ Below w.heap.size w w' := by
  unfold textC
  have kr := fun w h => right_any l 256 256 w hl rfl h
  have HGK : Bx (GlobK w) := ⟨hG⟩
  generalize rightB l 256 = R at *
  clear hl hG
  cases R
  all_goals
    go_enter Tryz.func109, Tryz.ntmps109
    go_wp2_with fail
    refine (kr _ HGK.out).mono ?_
    rintro e w1 ⟨rfl, h1⟩
    have H1 : Bx (Below w.heap.size w w1) := ⟨h1⟩
    clear h1 kr
    go_wp2_with (go_at_call 76; refine (new_any _ _ (by decide)).mono ?_; rintro e w' ⟨rfl, rfl⟩)
    go_ret
    exact ⟨rfl, H1.out⟩
/-- is a byte escaped? -/
def specB (c : UInt8) : Bool := c == 44 || c == 32 || c == 61 || c == 92
theorem beq_byte (c : UInt8) (n : Nat) (h : n < 256) : (((c.toNat : Int) == (n : Int)) : Bool) = (c == UInt8.ofNat n) := by
  rw [Bool.eq_iff_iff, beq_iff_eq, beq_iff_eq]
  constructor
  · intro e
    have e' : c.toNat = n := by omega
    rw [← e']; simp
  · rintro rfl
    rw [UInt8.toNat_ofNat']; omega
/-- a text, escaped -/
def escL (l : List UInt8) : List UInt8 := l.flatMap fun c => if specB c then [92, c] else [c]
theorem escL_snoc (l : List UInt8) (c : UInt8) : escL (l ++ [c]) = escL l ++ (if specB c then [92, c] else [c]) := by simp [escL]
theorem escL_len (l : List UInt8) : l.length ≤ (escL l).length ∧ (escL l).length ≤ 2 * l.length := by
  induction l with
  | nil => simp [escL]
  | cons c t ih =>
    have : escL (c :: t) = (if specB c then [92, c] else [c]) ++ escL t := by simp [escL]
    rw [this, List.length_append, List.length_cons]
    split <;> simp <;> omega
theorem take_one {l : List UInt8} {k : Nat} (h : k < l.length) : l.take (k + 1) = l.take k ++ [l.getD k 0] := by
  rw [List.take_succ_eq_append_getElem h, List.getD_eq_getElem?_getD, List.getElem?_eq_getElem h]; rfl
theorem getD_toArray' {l : List UInt8} {k : Nat} (h : k < l.length) : ((⟨l.toArray⟩ : ByteArray)[k]'(by simpa [ByteArray.size] using h)) = l.getD k 0 := by
  rw [List.getD_eq_getElem?_getD, List.getElem?_eq_getElem h]; rfl
end Go.Proofs.YtbcajmkmadgbhaaGreatDoor
