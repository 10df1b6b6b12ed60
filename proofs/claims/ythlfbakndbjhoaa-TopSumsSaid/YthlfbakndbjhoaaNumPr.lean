/- The reference's Print. -/
import Derived.Test.YthlfbakndbjhoaaNumPl
import Derived.Test.YthlfbakndbjhoaaNumRs
import Derived.Lib.SmallJoins
set_option linter.unusedSimpArgs false
set_option linter.unusedVariables false
namespace Go.Proofs.Ythlfbakndbjhoaa
open Go.RowKit
theorem sgn_iff {h l : Int} (hs : SumW h l) : h < 0 ↔ sZ h l < 0 := by
  obtain ⟨h0, h1, l0, l1⟩ := hs
  unfold sZ; omega
theorem dig_toNat {d : Nat} (h : d < 10) : (dig d).toNat = 48 + d := by
  unfold dig; rw [UInt8.toNat_ofNat']; omega
/-- a digit's byte, as a text -/
theorem dig_cell (w : World) (d : Nat) (hd : d < 10) (S : Nat) (hS : S = w.heap.size) :
    (convert 42 9 (.slice (some ⟨S, 0, none⟩) 1 1)).run Try.prog (w.alloc (.cells #[.int .u8 (48 + (d : Int))] 5)) = .ok (.string ⟨[dig d].toArray⟩) (w.alloc (.cells #[.int .u8 (48 + (d : Int))] 5)) := by
  subst hS
  refine run_convert_bytes_back (P := Try.prog) (w.alloc (.cells #[.int .u8 (48 + (d : Int))] 5)) 42 9 5 ⟨w.heap.size, 0, none⟩ 1 [dig d] Try.underlying42 Try.underlying5 Try.underlying9 ?_
  intro j hj
  obtain rfl : j = 0 := by simpa using hj
  show (w.alloc _).cell? ⟨w.heap.size, 0, none⟩ = _
  rw [World.cell?_alloc_at _ _ _ _ rfl]
  simp [dig_toNat hd]
/-- is a text empty? (1 if it is) -/
def emptyS : Value → Nat
  | .string s => if s.size = 0 then 1 else 0
  | _ => 0
/-- how far the printing of M has come: L is written, m is left -/
def Printed (M m : Nat) (L : List UInt8) : Prop := L.length ≤ 40 ∧ (L = [] ∧ m = M ∨ L ≠ [] ∧ 0 < m ∧ decN M = decN m ++ L ∨ L ≠ [] ∧ m = 0 ∧ decN M = L)
theorem Printed.step {M m : Nat} {L : List UInt8} (hM : (decN M).length ≤ 39) (h : Printed M m L) (hc : L = [] ∨ 0 < m) : Printed M (m / 10) (dig (m % 10) :: L) := by
  have key : decN M = decN m ++ L → Printed M (m / 10) (dig (m % 10) :: L) := fun e => by
    by_cases hm : m < 10
    · rw [decN_small hm] at e
      have e2 : m % 10 = m := Nat.mod_eq_of_lt hm
      rw [e2]
      refine ⟨?_, .inr (.inr ⟨by simp, by omega, by rw [e]; rfl⟩)⟩
      rw [e] at hM; simp at hM ⊢; omega
    · rw [decN_big hm, List.append_assoc] at e
      refine ⟨?_, .inr (.inl ⟨by simp, by omega, by rw [e]; rfl⟩)⟩
      rw [e] at hM; simp at hM ⊢; omega
  rcases h.2 with ⟨rfl, rfl⟩ | ⟨h1, h2, h3⟩ | ⟨h1, h2, h3⟩
  · exact key (by simp)
  · exact key h3
  · rcases hc with hc | hc
    · exact absurd hc h1
    · omega
theorem Printed.done {M : Nat} {L : List UInt8} (h : Printed M 0 L) (hL : L ≠ []) : decN M = L := by
  rcases h.2 with ⟨h1, _⟩ | ⟨_, h2, _⟩ | ⟨_, _, h3⟩
  · exact absurd h1 hL
  · omega
  · exact h3
/-- the world beside it: the sum's box -/
structure PrW (w0 w : World) (S : Nat) (h : Int) : Prop where
  below : Below S w0 w
  lt : S < w.heap.size
  c0 : w.cell? ⟨S, 0, none⟩ = some (.int .i64 h)
theorem PrW.step {w0 w w' : World} {S : Nat} {h : Int} (g : PrW w0 w S h) (hb : Below w.heap.size w w') : PrW w0 w' S h where
  below := ⟨hb.os.trans g.below.os, hb.tape.trans g.below.tape, hb.output.trans g.below.output, Nat.le_trans g.below.size hb.size, fun k hk => (hb.block k (Nat.lt_trans hk g.lt)).trans (g.below.block k hk)⟩
  lt := Nat.lt_of_lt_of_le g.lt hb.size
  c0 := by rw [hb.cell (p := ⟨S, 0, none⟩) g.lt]; exact g.c0
end Go.Proofs.Ythlfbakndbjhoaa
