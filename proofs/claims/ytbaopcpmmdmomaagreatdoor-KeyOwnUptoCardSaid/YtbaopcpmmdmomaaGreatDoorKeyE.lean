/- key.Name, Text, special, Escape; and the document's special, Escape. -/
import Derived.Test.YtbaopcpmmdmomaaGreatDoorKeyD
import Derived.WalkSpells
set_option linter.unusedSimpArgs false
set_option linter.unusedVariables false
namespace Go.Proofs.YtbaopcpmmdmomaaGreatDoor
open Go.RowKit
theorem new_any (c : Int) (w : World) (hc : 1 ≤ c) : Calls Tryz.prog 63 #[.int .i64 c] w fun e w' => e = .returned (errV c) ∧ w = w' := by
  have h : (c == 0) = false := by simp; omega
  go_enter Tryz.func63, Tryz.ntmps63
  go_wp2
  go_ret
  exact ⟨rfl, rfl⟩
/-- an error of a number, or none -/
def eV (c : Int) : Value := if c = 0 then .nilIface else errV c
theorem eV_zero : eV 0 = .nilIface := rfl
theorem eV_pos {c : Int} (h : 1 ≤ c) : eV c = errV c := by unfold eV; rw [if_neg (by omega)]
def nameC (l : List UInt8) : Int := if rightB l 64 then 0 else 50
def textC (l : List UInt8) : Int := if rightB l 256 then 0 else 51
theorem name_any (l : List UInt8) (w : World) (hl : l.length ≤ 9223372036854775807) (hG : GlobK w) :
    Calls Tryz.prog 25 #[strV l] w fun e w' => e = .returned (eV (nameC l)) ∧ Below w.heap.size w w' := by
  unfold nameC
  have kr := fun w h => right_any l 64 64 w hl rfl h
  have HGK : Bx (GlobK w) := ⟨hG⟩
  generalize rightB l 64 = R at *
  clear hl hG
  cases R
  all_goals
    go_enter Tryz.func25, Tryz.ntmps25
    go_wp2_with fail
    refine (kr _ HGK.out).mono ?_
    rintro e w1 ⟨rfl, h1⟩
    have H1 : Bx (Below w.heap.size w w1) := ⟨h1⟩
    clear h1 kr
    go_wp2_with (go_at_call 63; refine (new_any _ _ (by decide)).mono ?_; rintro e w' ⟨rfl, rfl⟩)
    go_ret
    exact ⟨rfl, H1.out⟩
/-- is a byte escaped? -/
def specB (c : UInt8) : Bool := c == 44 || c == 32 || c == 61 || c == 92
theorem beq_byte (c : UInt8) (n : Nat) (h : n < 256) : (((c.toNat : Int) == (n : Int)) : Bool) = (c == UInt8.ofNat n) := by
  rw [Bool.eq_iff_iff, beq_iff_eq, beq_iff_eq]
  constructor
  · intro e
    have e' : c.toNat = n := by omega
    rw [← e']; simp
  · rintro rfl
    rw [UInt8.toNat_ofNat']; omega
theorem special_any (c : UInt8) (w : World) :
    Calls Tryz.prog 64 #[.int .u8 (c.toNat : Int)] w fun e w' => e = .returned (.bool (specB c)) ∧ w = w' := by
  have e1 : (((c.toNat : Int) == 44) : Bool) = (c == 44) := beq_byte c 44 (by decide)
  have e2 : (((c.toNat : Int) == 32) : Bool) = (c == 32) := beq_byte c 32 (by decide)
  have e3 : (((c.toNat : Int) == 61) : Bool) = (c == 61) := beq_byte c 61 (by decide)
  have e4 : (((c.toNat : Int) == 92) : Bool) = (c == 92) := beq_byte c 92 (by decide)
  unfold specB
  generalize (c == 44) = b1 at *
  generalize (c == 32) = b2 at *
  generalize (c == 61) = b3 at *
  generalize (c == 92) = b4 at *
  cases b1 <;> cases b2 <;> cases b3 <;> cases b4 <;>
  · go_enter Tryz.func64, Tryz.ntmps64
    go_wp2
    go_ret
    exact ⟨rfl, rfl⟩
/-- a text, escaped -/
def escL (l : List UInt8) : List UInt8 := l.flatMap fun c => if specB c then [92, c] else [c]
theorem escL_snoc (l : List UInt8) (c : UInt8) : escL (l ++ [c]) = escL l ++ (if specB c then [92, c] else [c]) := by simp [escL]
theorem escL_len (l : List UInt8) : l.length ≤ (escL l).length ∧ (escL l).length ≤ 2 * l.length := by
  induction l with
  | nil => simp [escL]
  | cons c t ih =>
    have : escL (c :: t) = (if specB c then [92, c] else [c]) ++ escL t := by simp [escL]
    rw [this, List.length_append, List.length_cons]
    split <;> simp <;> omega
theorem take_one {l : List UInt8} {k : Nat} (h : k < l.length) : l.take (k + 1) = l.take k ++ [l.getD k 0] := by
  rw [List.take_succ_eq_append_getElem h, List.getD_eq_getElem?_getD, List.getElem?_eq_getElem h]; rfl
theorem getD_toArray' {l : List UInt8} {k : Nat} (h : k < l.length) : ((⟨l.toArray⟩ : ByteArray)[k]'(by simpa [ByteArray.size] using h)) = l.getD k 0 := by
  rw [List.getD_eq_getElem?_getD, List.getElem?_eq_getElem h]; rfl
theorem Bld.new (w : World) : Bld w.heap.size w.heap.size [] (w.alloc (.cells #[.pointer none, .slice none 0 0] 101)) :=
  .inl ⟨Nat.le_refl _, .slice none 0 0, heap_alloc_new w _, World.ownsRow_nil _ _ _ _, by simp [Value.ownBlock]⟩
set_option maxHeartbeats 2000000 in
set_option maxRecDepth 100000 in
theorem escape_any (l : List UInt8) (w : World) (hl : l.length ≤ 70368744177664) :
    Calls Tryz.prog 23 #[strV l] w fun e w' => e = .returned (strV (escL l)) ∧ Below w.heap.size w w' := by
  have HB0 : Bx _ := ⟨Bld.new w⟩
  go_enter Tryz.func23, Tryz.ntmps23
  go_wp2_with fail
  generalize hw1 : (w.alloc (.cells #[.pointer none, .slice none 0 0] 101)) = w1 at *
  have HW1 : Bx (Below w.heap.size w w1) := ⟨by rw [← hw1]; exact below1 _ _⟩
  generalize hS : w.heap.size = S at *
  have HS : Bx (w.heap.size = S) := ⟨hS⟩
  clear hS hw1
  go_loopw [7] (fun i wr => ∃ k : Nat, k ≤ l.length ∧ i = .int .i64 k ∧ Bx (Bld S S (escL (l.take k)) wr ∧ Below S w wr ∧ S ≤ wr.heap.size)) (fun i _ => l.length - (intOf i).toNat)
  case atStart => exact ⟨0, by omega, rfl, ⟨HB0.out, HW1.out, by rw [← HS.out]; exact HW1.out.size⟩⟩
  case round =>
    obtain ⟨k, hk, rfl, HI⟩ := hrel
    clear HB0 HW1
    by_cases hlt : k < l.length
    · obtain ⟨a, ha⟩ : ∃ a, l.getD k 0 = a := ⟨_, rfl⟩
      have hak : ((⟨l.toArray⟩ : ByteArray)[k]'(by simpa [ByteArray.size] using hlt)) = a := by rw [getD_toArray' hlt, ha]
      have hlen := escL_len (l.take k)
      have hlk : (l.take k).length ≤ k := List.length_take_le _ _
      have HT : Bx (escL (l.take (k + 1)) = escL (l.take k) ++ (if specB a then [92, a] else [a])) := ⟨by rw [take_one hlt, escL_snoc, ha]⟩
      have HA : Bx _ := ⟨hak⟩
      clear ha
      generalize escL (l.take k) = E at *
      have ks := fun w => special_any a w
      have k1 := fun w h => writeByte S S E 92 w h (by omega)
      have k2 := fun w h => writeByte S S E a w h (by omega)
      have k3 := fun w h => writeByte S S (E ++ [92]) a w h (by simp; omega)
      generalize specB a = sp at *
      go_wp2_with fail
      refine (ks _).mono ?_
      rintro e w2 ⟨rfl, rfl⟩
      clear ks hak
      have hak : ((⟨l.toArray⟩ : ByteArray)[k]'(by simpa [ByteArray.size] using hlt)) = a := HA.out
      cases sp
      · go_wp2_with fail
        refine (k2 _ HI.out.1 HI.out.2.2).mono ?_
        rintro e w3 ⟨rfl, h3, hb3⟩
        have HJ : Bx (Bld S S (escL (l.take (k + 1))) w3 ∧ Below S w w3 ∧ S ≤ w3.heap.size) := ⟨by rw [HT.out]; exact h3, HI.out.2.1.trans hb3, Nat.le_trans HI.out.2.2 hb3.size⟩
        clear h3 hb3 HI k1 k2 k3 hak
        go_wp2
        exact ⟨⟨k + 1, by omega, by rw [Int.natCast_succ], HJ⟩, by simp only [intOf]; omega⟩
      · go_wp2_with fail
        refine (k1 _ HI.out.1 HI.out.2.2).mono ?_
        rintro e w3 ⟨rfl, h3, hb3⟩
        have hz3 : S ≤ w3.heap.size := Nat.le_trans HI.out.2.2 hb3.size
        go_wp2_with fail
        refine (k3 _ h3 hz3).mono ?_
        rintro e w4 ⟨rfl, h4, hb4⟩
        have HJ : Bx (Bld S S (escL (l.take (k + 1))) w4 ∧ Below S w w4 ∧ S ≤ w4.heap.size) := ⟨by rw [HT.out]; simpa using h4, (HI.out.2.1.trans hb3).trans hb4, Nat.le_trans hz3 hb4.size⟩
        clear h3 hb3 h4 hb4 hz3 HI k1 k2 k3 hak
        go_wp2
        exact ⟨⟨k + 1, by omega, by rw [Int.natCast_succ], HJ⟩, by simp only [intOf]; omega⟩
    · obtain rfl : k = l.length := by omega
      have HJ : Bx (Bld S S (escL l) wr ∧ Below S w wr ∧ S ≤ wr.heap.size) := ⟨by have := HI.out; rwa [List.take_length] at this⟩
      clear HI
      have kst := fun w h hb => Tryz.Builder_String_any S S (escL l) w h hb
      go_wp2_with fail
      refine (kst _ HJ.out.1 HJ.out.2.2).mono ?_
      rintro e w2 ⟨rfl, h2⟩
      have HF : Bx (Below S w w2) := ⟨HJ.out.2.1.trans h2⟩
      clear h2 kst HJ
      go_wp2
      go_ret
      exact ⟨rfl, by rw [HS.out]; exact HF.out⟩
end Go.Proofs.YtbaopcpmmdmomaaGreatDoor
