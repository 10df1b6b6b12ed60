/- The reference's Wide, right, IsName, IsText, IsWord. -/
import Derived.Test.YtbaopcpmmdmomaaGreatDoorKeyA
set_option linter.unusedSimpArgs false
set_option linter.unusedVariables false
namespace Go.Proofs.YtbaopcpmmdmomaaGreatDoor
open Go.RowKit
theorem getD_toArray {l : List UInt8} {k : Nat} (h : k < l.length) : ((⟨l.toArray⟩ : ByteArray)[k]'(by simpa [ByteArray.size] using h)) = l.getD k 0 := by
  rw [List.getD_eq_getElem?_getD, List.getElem?_eq_getElem h]; rfl
/-- where Wide stands -/
structure WV (l : List UInt8) (v0 k x : Nat) : Prop where
  c : ∀ j, 1 ≤ j → j < k → cont l j
  v : x = val l v0 k
  b : (k = 1 → x < 32) ∧ (k = 2 → x < 2048) ∧ (k = 3 → x < 131072) ∧ (k = 4 → x < 8388608)
theorem WV.step {l : List UInt8} {v0 k x y : Nat} (g : WV l v0 k x) (h1 : 1 ≤ k) (h3 : k ≤ 3) (hc : cont l k) (hy : (l.getD k 0).toNat - 128 = y) : WV l v0 (k + 1) (x * 64 + y) where
  c := fun j a b => by
    rcases Nat.lt_or_ge j k with h | h
    · exact g.c j a h
    · obtain rfl : j = k := by omega
      exact hc
  v := by rw [val_succ _ _ _ h1, ← g.v, hy]
  b := by
    have := g.b
    unfold cont at hc
    have : y < 64 := by omega
    refine ⟨by omega, by omega, by omega, by omega⟩
end Go.Proofs.YtbaopcpmmdmomaaGreatDoor
