/- The walk of the statement NumBetween. Condition: errors.errorType holds the handle of the type error. -/
import Derived.Test.YthlfbakndbjhoaaNumRa
import Derived.StillTailTactics
set_option linter.unusedSimpArgs false
set_option linter.unusedVariables false
namespace Go.Proofs.Ythlfbakndbjhoaa
open Go.RowKit
/-- a row of int64 in memory: n of them from a place on -/
def RowI (w : World) (b off n : Nat) (f : Nat → Int) : Prop := ∀ i, i < n → w.cell? ⟨b, off + i, none⟩ = some (.int .i64 (f i))
theorem plus_sZ (h l n : Int) (hs : SumW h l) (hn : I64 n) (b0 : -170141183460469231731687303715884105728 ≤ sZ h l + n) (b1 : sZ h l + n ≤ 170141183460469231731687303715884105727) :
    SumW (plusHi h l n) (plusLo l n) ∧ sZ (plusHi h l n) (plusLo l n) = sZ h l + n := by
  obtain ⟨e1, e2⟩ := plus_val h l n hs.h0 hs.h1 hs.l0 hs.l1 hn.lo hn.hi
  obtain ⟨h0, h1, l0, l1⟩ := hs
  obtain ⟨n0, n1⟩ := hn
  rw [e1, e2]
  unfold sZ at *
  unfold wrap64
  exact ⟨⟨by omega, by omega, by omega, by omega⟩, by omega⟩

/-- what holds of the sum of k numbers, and of the least and the greatest of them -/
structure BT (k : Nat) (L G SH SL : Int) : Prop where
  l : I64 L
  g : I64 G
  s : SumW SH SL
  a : (k : Int) * L ≤ sZ SH SL
  b : sZ SH SL ≤ (k : Int) * G
theorem BT.step {k : Nat} {L G SH SL x : Int} (h : BT k L G SH SL) (hx : I64 x) (hk : k < 9223372036854775807) :
    BT (k + 1) (if x < L then x else L) (if G < x then x else G) (plusHi SH SL x) (plusLo SL x) := by
  obtain ⟨hl, hg, hs, ha, hb⟩ := h
  have hl2 := hl.lo
  have hl3 := hl.hi
  have hg2 := hg.lo
  have hg3 := hg.hi
  have hx2 := hx.lo
  have hx3 := hx.hi
  have hk' : (k : Int) ≤ 9223372036854775807 := by omega
  have hk0 : (0 : Int) ≤ (k : Int) := by omega
  have m1 : (k : Int) * (-9223372036854775808) ≤ (k : Int) * L := Int.mul_le_mul_of_nonneg_left hl2 hk0
  have m2 : (k : Int) * G ≤ (k : Int) * 9223372036854775807 := Int.mul_le_mul_of_nonneg_left hg3 hk0
  obtain ⟨hs', e⟩ := plus_sZ SH SL x hs hx (by omega) (by omega)
  have key : ∀ L', L' ≤ L → L' ≤ x → ((k + 1 : Nat) : Int) * L' ≤ sZ SH SL + x := by
    intro L' h1 h2
    have := Int.mul_le_mul_of_nonneg_left h1 hk0
    rw [Int.natCast_succ, Int.add_mul]; omega
  have key2 : ∀ G', G ≤ G' → x ≤ G' → sZ SH SL + x ≤ ((k + 1 : Nat) : Int) * G' := by
    intro G' h1 h2
    have := Int.mul_le_mul_of_nonneg_left h1 hk0
    rw [Int.natCast_succ, Int.add_mul]; omega
  refine ⟨?_, ?_, hs', ?_, ?_⟩
  · split
    · exact hx
    · exact hl
  · split
    · exact hx
    · exact hg
  · rw [e]; apply key <;> split <;> omega
  · rw [e]; apply key2 <;> split <;> omega

theorem floor_between {L G SH SL : Int} (k : Nat) (h0 : 0 < k) (h1 : k ≤ 9223372036854775807) (h : BT k L G SH SL) :
    L ≤ floorZ (sZ SH SL) k ∧ floorZ (sZ SH SL) k ≤ G ∧ Fits (floorZ (sZ SH SL) k) := by
  obtain ⟨hl, hg, hs, ha, hb⟩ := h
  have hk0 : (0 : Int) < (k : Int) := by omega
  have e0 : L ≤ floorZ (sZ SH SL) k := by
    unfold floorZ
    rw [Int.fdiv_eq_ediv_of_nonneg _ (Int.le_of_lt hk0)]
    exact Int.le_ediv_of_mul_le hk0 (by rw [Int.mul_comm]; exact ha)
  have e1 : floorZ (sZ SH SL) k ≤ G := by
    unfold floorZ
    rw [Int.fdiv_eq_ediv_of_nonneg _ (Int.le_of_lt hk0)]
    have := Int.ediv_le_of_le_mul hk0 (show sZ SH SL ≤ G * (k : Int) by rw [Int.mul_comm]; exact hb)
    exact this
  have := hl.lo
  have := hg.hi
  exact ⟨e0, e1, by unfold Fits; omega⟩
end Go.Proofs.Ythlfbakndbjhoaa
