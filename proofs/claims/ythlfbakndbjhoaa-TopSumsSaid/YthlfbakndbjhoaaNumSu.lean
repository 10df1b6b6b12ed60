/- Sums by their values: num.Plus, num.Minus, num.Compare at the pair of a number of 128 bits. -/
import Derived.Test.YthlfbakndbjhoaaNumDw
import Derived.StillTailTactics
set_option linter.unusedSimpArgs false
set_option linter.unusedVariables false
namespace Go.Proofs.Ythlfbakndbjhoaa
open Go.RowKit
/-- the two words of a number -/
def hZ (z : Int) : Int := z / 18446744073709551616
def lZ (z : Int) : Int := z % 18446744073709551616
/-- a number that a sum holds -/
structure InS (z : Int) : Prop where
  lo : -170141183460469231731687303715884105728 ≤ z
  hi : z ≤ 170141183460469231731687303715884105727
theorem InS.w {z : Int} (h : InS z) : SumW (hZ z) (lZ z) := by
  obtain ⟨a, b⟩ := h
  unfold hZ lZ
  exact ⟨by omega, by omega, by omega, by omega⟩
theorem sZ_hl (z : Int) : sZ (hZ z) (lZ z) = z := by unfold sZ hZ lZ; omega
theorem hl_of {h l : Int} (s : SumW h l) : hZ (sZ h l) = h ∧ lZ (sZ h l) = l := by
  obtain ⟨a, b, c, d⟩ := s
  unfold sZ hZ lZ; omega
theorem inS_of {h l : Int} (s : SumW h l) : InS (sZ h l) := by
  obtain ⟨a, b, c, d⟩ := s
  unfold sZ; exact ⟨by omega, by omega⟩
theorem hl_inj {a b : Int} (h : hZ a = hZ b) (l : lZ a = lZ b) : a = b := by unfold hZ lZ at *; omega
theorem hZ_zero : hZ 0 = 0 := rfl
theorem lZ_zero : lZ 0 = 0 := rfl
theorem plus_z (z n : Int) (hz : InS z) (hn : I64 n) (hs : InS (z + n)) (w : World) :
    Calls Try.prog 5 #[.agg #[.int .i64 (hZ z), .int .u64 (lZ z)], .int .i64 n] w fun e w' => e = .returned (.agg #[.int .i64 (hZ (z + n)), .int .u64 (lZ (z + n))]) ∧ Below w.heap.size w w' := by
  have s := hz.w
  obtain ⟨e1, e2⟩ := plus_val (hZ z) (lZ z) n s.h0 s.h1 s.l0 s.l1 hn.lo hn.hi
  have h1 : hZ (z + n) = plusHi (hZ z) (lZ z) n := by
    rw [e2]; obtain ⟨a, b⟩ := hs; unfold hZ lZ wrap64; omega
  have h2 : lZ (z + n) = plusLo (lZ z) n := by
    rw [e1]; unfold lZ; omega
  rw [h1, h2]
  exact plus_any _ _ n s.l0 s.l1 w
theorem minus_z (z n : Int) (hz : InS z) (hn : I64 n) (hs : InS (z - n)) (w : World) :
    Calls Try.prog 6 #[.agg #[.int .i64 (hZ z), .int .u64 (lZ z)], .int .i64 n] w fun e w' => e = .returned (.agg #[.int .i64 (hZ (z - n)), .int .u64 (lZ (z - n))]) ∧ Below w.heap.size w w' := by
  have s := hz.w
  obtain ⟨e1, e2⟩ := minus_val (hZ z) (lZ z) n s.h0 s.h1 s.l0 s.l1 hn.lo hn.hi
  have h1 : hZ (z - n) = minusHi (hZ z) (lZ z) n := by
    rw [e2]; obtain ⟨a, b⟩ := hs; unfold hZ lZ wrap64; omega
  have h2 : lZ (z - n) = minusLo (lZ z) n := by
    rw [e1]; unfold lZ; omega
  rw [h1, h2]
  exact minus_any _ _ n s.l0 s.l1 w
/-- -1, 0 or 1: how two numbers stand -/
def cmpZ (a b : Int) : Int := if a < b then -1 else if b < a then 1 else 0
theorem compare_z (a b : Int) (w : World) :
    Calls Try.prog 7 #[.agg #[.int .i64 (hZ a), .int .u64 (lZ a)], .agg #[.int .i64 (hZ b), .int .u64 (lZ b)]] w fun e w' => e = .returned (.int .i64 (cmpZ a b)) ∧ Below w.heap.size w w' := by
  have : cmpZ a b = (if hZ a = hZ b ∧ lZ a = lZ b then 0 else if hZ a < hZ b ∨ hZ a = hZ b ∧ lZ a < lZ b then -1 else 1) := by
    unfold cmpZ hZ lZ
    repeat' split
    all_goals omega
  rw [this]
  exact compare_any _ _ _ _ w

/-- the sum of those of n numbers of which p holds -/
def sumIf (p : Nat → Bool) (f : Nat → Int) : Nat → Int
  | 0 => 0
  | k + 1 => sumIf p f k + (if p k then f k else 0)
theorem sumIf_congr {p q : Nat → Bool} {f : Nat → Int} : ∀ {n : Nat}, (∀ i, i < n → p i = q i) → sumIf p f n = sumIf q f n
  | 0, _ => rfl
  | n + 1, h => by simp only [sumIf]; rw [sumIf_congr (n := n) (fun i hi => h i (by omega)), h n (by omega)]
theorem sumIf_upd {p : Nat → Bool} {f : Nat → Int} (i : Nat) (hp : p i = false) : ∀ {n : Nat}, i < n → sumIf (fun j => if j = i then true else p j) f n = sumIf p f n + f i
  | 0, h => by omega
  | n + 1, h => by
    simp only [sumIf]
    by_cases hi : i = n
    · subst hi
      rw [sumIf_congr (n := i) (q := p) (fun j hj => by rw [if_neg (by omega)])]
      simp [hp]
    · rw [sumIf_upd i hp (n := n) (by omega)]
      have hni : ¬ n = i := by omega
      simp only [hni, if_false]
      omega
theorem sumIf_bound {p : Nat → Bool} {f : Nat → Int} : ∀ {n : Nat}, (∀ i, i < n → I64 (f i)) → -((n : Int) * 9223372036854775808) ≤ sumIf p f n ∧ sumIf p f n ≤ (n : Int) * 9223372036854775808
  | 0, _ => by simp [sumIf]
  | n + 1, h => by
    have ih := sumIf_bound (p := p) (f := f) (n := n) (fun i hi => h i (by omega))
    have hn := h n (by omega)
    have h0 := hn.lo
    have h1 := hn.hi
    simp only [sumIf]
    rw [Int.natCast_succ]
    split <;> omega
theorem sumIf_in {p : Nat → Bool} {f : Nat → Int} {n : Nat} (hn : n ≤ 9223372036854775807) (h : ∀ i, i < n → I64 (f i)) : InS (sumIf p f n) := by
  have := sumIf_bound (p := p) h
  constructor <;> omega
end Go.Proofs.Ythlfbakndbjhoaa
