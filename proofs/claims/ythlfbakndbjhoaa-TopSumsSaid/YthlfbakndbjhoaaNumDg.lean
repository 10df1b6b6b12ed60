/- Plain arithmetic of bits.Div64: one digit of a division by a number of two digits, and both digits together. No program in sight. -/
import Derived.WalkKit
import Derived.Lib.ItoaNum
import Derived.Lib.BitFns
import Derived.Laws.BitsAllLaws
import Derived.Laws.Bits64b
namespace Go.Proofs.Ythlfbakndbjhoaa
/-! one digit of a division by a number of two digits (base 2^32): Knuth's estimate, mended -/
/-- what holds of the estimate q and its rest r at the loop's head -/
structure Dig (u d Y A C q r : Int) : Prop where
  e : q * A + r = u
  q0 : 0 ≤ q
  r0 : 0 ≤ r
  r1 : r < 4294967296
  up : u * 4294967296 + d < (q + 1) * Y
structure DigHyp (u d Y A C : Int) : Prop where
  y : Y = A * 4294967296 + C
  a0 : 2147483648 ≤ A
  a1 : A < 4294967296
  c0 : 0 ≤ C
  c1 : C < 4294967296
  u0 : 0 ≤ u
  u1 : u < Y
  d0 : 0 ≤ d
  d1 : d < 4294967296
theorem prod_eq {u d Y A C q r : Int} (h : DigHyp u d Y A C) (e : q * A + r = u) : q * Y = (u - r) * 4294967296 + q * C := by
  rw [h.y, Int.mul_add, ← Int.mul_assoc, ← e]; omega
theorem Dig.start {u d Y A C : Int} (h : DigHyp u d Y A C) : Dig u d Y A C (u / A) (u % A) := by
  have hA : 0 < A := by have := h.a0; omega
  have e : u / A * A + u % A = u := Int.ediv_mul_add_emod u A
  have r1 := Int.emod_lt_of_pos u hA
  have r0 := Int.emod_nonneg u (show A ≠ 0 by omega)
  have q0 : 0 ≤ u / A := Int.ediv_nonneg h.u0 (by omega)
  refine ⟨e, q0, r0, by have := h.a1; omega, ?_⟩
  rw [Int.add_mul, prod_eq h e, h.y]
  have hc : 0 ≤ u / A * C := Int.mul_nonneg q0 h.c0
  have := h.c0; have := h.d1
  omega
/-- the test says yes: one less -/
theorem Dig.less {u d Y A C q r : Int} (h : DigHyp u d Y A C) (g : Dig u d Y A C q r) (ht : 4294967296 ≤ q ∨ q * C > 4294967296 * r + d) : 1 ≤ q ∧ u * 4294967296 + d < q * Y := by
  have hlt : u * 4294967296 + d < q * Y := by
    rcases ht with ht | ht
    · have h1 : 4294967296 * Y ≤ q * Y := Int.mul_le_mul_of_nonneg_right ht (by have := h.u0; have := h.u1; omega)
      have := h.u1; have := h.d1
      omega
    · rw [prod_eq h g.e]; omega
  refine ⟨?_, hlt⟩
  have hq := g.q0
  rcases Int.lt_or_le q 1 with h1 | h1
  · have : q = 0 := by omega
    subst this
    have := h.u0; have := h.d0
    omega
  · exact h1
theorem Dig.go {u d Y A C q r : Int} (h : DigHyp u d Y A C) (g : Dig u d Y A C q r) (ht : 4294967296 ≤ q ∨ q * C > 4294967296 * r + d) (hr : r + A < 4294967296) : Dig u d Y A C (q - 1) (r + A) := by
  obtain ⟨h1, h2⟩ := g.less h ht
  have e := g.e
  have r0 := g.r0
  have := h.a0
  refine ⟨by rw [Int.sub_mul]; omega, by omega, by omega, hr, by rw [show q - 1 + 1 = q by omega]; exact h2⟩
/-- the digit is found where the test says no .. -/
theorem Dig.no {u d Y A C q r : Int} (h : DigHyp u d Y A C) (g : Dig u d Y A C q r) (hq : q < 4294967296) (ht : q * C ≤ 4294967296 * r + d) : q = (u * 4294967296 + d) / Y ∧ q < 4294967296 := by
  have hY : 0 < Y := by have := h.u0; have := h.u1; omega
  have l : q * Y ≤ u * 4294967296 + d := by rw [prod_eq h g.e]; omega
  have up := g.up
  refine ⟨?_, hq⟩
  have a : q ≤ (u * 4294967296 + d) / Y := (Int.le_ediv_iff_mul_le hY).2 l
  have b : (u * 4294967296 + d) / Y < q + 1 := (Int.ediv_lt_iff_lt_mul hY).2 up
  omega
/-- .. and where the rest has grown out of a digit -/
theorem Dig.brk {u d Y A C q r : Int} (h : DigHyp u d Y A C) (g : Dig u d Y A C q r) (ht : 4294967296 ≤ q ∨ q * C > 4294967296 * r + d) (hr : 4294967296 ≤ r + A) : q - 1 = (u * 4294967296 + d) / Y ∧ q - 1 < 4294967296 := by
  have hY : 0 < Y := by have := h.u0; have := h.u1; omega
  obtain ⟨h1, h2⟩ := g.less h ht
  have e : (q - 1) * A + (r + A) = u := by rw [Int.sub_mul]; have := g.e; omega
  have hq : q - 1 < 4294967296 := by
    rcases Int.lt_or_le (q - 1) 4294967296 with x | x
    · exact x
    · exfalso
      have h3 : 4294967296 * A ≤ (q - 1) * A := Int.mul_le_mul_of_nonneg_right x (by have := h.a0; omega)
      have := h.u1; have := h.y; have := h.c1
      omega
  have hc : (q - 1) * C ≤ 4294967295 * 4294967295 := Int.mul_le_mul (by omega) (by have := h.c1; omega) h.c0 (by omega)
  have l : (q - 1) * Y ≤ u * 4294967296 + d := by rw [prod_eq h e]; have := h.d0; omega
  refine ⟨?_, hq⟩
  have a : q - 1 ≤ (u * 4294967296 + d) / Y := (Int.le_ediv_iff_mul_le hY).2 l
  have b : (u * 4294967296 + d) / Y < q := (Int.ediv_lt_iff_lt_mul hY).2 h2
  omega

theorem rest_range {u d Y A C : Int} (h : DigHyp u d Y A C) : 0 ≤ u * 4294967296 + d - (u * 4294967296 + d) / Y * Y ∧ u * 4294967296 + d - (u * 4294967296 + d) / Y * Y < Y := by
  have hY : 0 < Y := by have := h.u0; have := h.u1; omega
  have e := Int.ediv_mul_add_emod (u * 4294967296 + d) Y
  have a := Int.emod_nonneg (u * 4294967296 + d) (show Y ≠ 0 by omega)
  have b := Int.emod_lt_of_pos (u * 4294967296 + d) hY
  omega
theorem dig_lt {u d Y A C : Int} (h : DigHyp u d Y A C) : 0 ≤ (u * 4294967296 + d) / Y ∧ (u * 4294967296 + d) / Y < 4294967296 := by
  have hY : 0 < Y := by have := h.u0; have := h.u1; omega
  have := h.u0; have := h.u1; have := h.d0; have := h.d1
  exact ⟨Int.ediv_nonneg (by omega) (by omega), (Int.ediv_lt_iff_lt_mul hY).2 (by omega)⟩
/-- the two digits together -/
theorem two_digits {u Y d1 d0 n y S : Int} (hS : 0 < S) (hy : 0 < y) (hY : Y = y * S) (hn : n * S = u * 18446744073709551616 + d1 * 4294967296 + d0)
    (u2 : Int) (hu2 : u2 = u * 4294967296 + d1 - (u * 4294967296 + d1) / Y * Y) :
    (u * 4294967296 + d1) / Y * 4294967296 + (u2 * 4294967296 + d0) / Y = n / y ∧ (u2 * 4294967296 + d0 - (u2 * 4294967296 + d0) / Y * Y) / S = n % y := by
  have hYp : 0 < Y := by rw [hY]; exact Int.mul_pos hy hS
  have e2 := Int.ediv_mul_add_emod (u2 * 4294967296 + d0) Y
  have a := Int.emod_nonneg (u2 * 4294967296 + d0) (show Y ≠ 0 by omega)
  have b := Int.emod_lt_of_pos (u2 * 4294967296 + d0) hYp
  generalize hQ1 : (u * 4294967296 + d1) / Y = Q1 at *
  generalize hQ0 : (u2 * 4294967296 + d0) / Y = Q0 at *
  generalize (u2 * 4294967296 + d0) % Y = r at *
  have hN : n * S = r + (Q1 * 4294967296 + Q0) * Y := by
    rw [hn, Int.add_mul, Int.mul_right_comm]; omega
  have hr : u2 * 4294967296 + d0 - Q0 * Y = r := by omega
  rw [hr]
  have q : n / y = Q1 * 4294967296 + Q0 := by
    have h1 : n * S / (y * S) = n / y := Int.mul_ediv_mul_of_pos_left n y hS
    rw [← h1, ← hY, hN, Int.add_mul_ediv_right _ _ (by omega), Int.ediv_eq_zero_of_lt a b]; omega
  refine ⟨q.symm, ?_⟩
  have h3 : r = (n % y) * S := by
    have h4 := Int.ediv_mul_add_emod n y
    rw [q] at h4
    have h5 : n * S = (Q1 * 4294967296 + Q0) * y * S + n % y * S := by rw [← Int.add_mul, h4]
    rw [Int.mul_assoc, ← hY] at h5
    omega
  rw [h3, Int.mul_ediv_cancel _ (by omega)]
open Go.RowKit
theorem bits_and_low (L : Int) (h0 : 0 ≤ L) (h1 : L ≤ 18446744073709551615) : bits .and .u64 L 4294967295 = L % 4294967296 := by
  obtain ⟨a, rfl⟩ := Int.eq_ofNat_of_zero_le h0
  have h := bits_and_u64_nat a 4294967295 (by omega) (by omega)
  have e : a &&& 4294967295 = a % 4294967296 := Nat.and_two_pow_sub_one_eq_mod a 32
  rw [e] at h
  rw [show ((4294967295 : Nat) : Int) = 4294967295 from rfl] at h
  rw [h]; omega
theorem bits_or_add (x y : Nat) (s : Nat) (hy : y < 2 ^ s) (hx : 2 ^ s * x < 18446744073709551616) (hy2 : y < 18446744073709551616) : bits .or .u64 ((2 ^ s * x : Nat) : Int) (y : Int) = ((2 ^ s * x + y : Nat) : Int) := by
  rw [bits_or_u64_nat _ _ hx hy2, ← Nat.two_pow_add_eq_or_of_lt hy]
structure Setup (hi lo y S T : Int) (Y A C H K U L d1 d0 : Int) : Prop where
  hY : IntKind.u64.wrap (y * S) = Y
  hA : Y / 4294967296 = A
  hC : bits .and .u64 Y 4294967295 = C
  hH : IntKind.u64.wrap (hi * S) = H
  hK : lo / T = K
  hU : bits .or .u64 H K = U
  hL : IntKind.u64.wrap (lo * S) = L
  h1 : L / 4294967296 = d1
  h0 : bits .and .u64 L 4294967295 = d0
  dig : DigHyp U d1 Y A C
  d00 : 0 ≤ d0
  d01 : d0 < 4294967296
  S0 : 0 < S
  eY : Y = y * S
  eN : (hi * 18446744073709551616 + lo) * S = U * 18446744073709551616 + d1 * 4294967296 + d0
  Y1 : Y ≤ 18446744073709551615
theorem setup (hi lo y : Int) (B : Nat) (h0 : 0 ≤ hi) (h1 : hi < y) (l0 : 0 ≤ lo) (l1 : lo ≤ 18446744073709551615) (y1 : y ≤ 18446744073709551615) (hB : Lib.bitLen y.toNat = B) :
    1 ≤ B ∧ B ≤ 64 ∧ ∃ Y A C H K U L d1 d0, Setup hi lo y (2 ^ (64 - B)) (2 ^ (64 - (64 - B))) Y A C H K U L d1 d0 := by
  obtain ⟨b1, b2, b3⟩ := Lib.bitLenAux_bounds 64 y.toNat (by show y.toNat < 18446744073709551616; omega) (by omega)
  have b4 := Lib.bitLen_le y.toNat 64 (by decide) (by show y.toNat < 18446744073709551616; omega)
  unfold Lib.bitLen at hB b4
  rw [hB] at b1 b2 b3 b4
  refine ⟨b1, b4, ?_⟩
  obtain ⟨s, hs⟩ : ∃ s, s = 64 - B := ⟨_, rfl⟩
  have eT : 64 - (64 - B) = B := by omega
  obtain ⟨y, rfl⟩ := Int.eq_ofNat_of_zero_le (show 0 ≤ y by omega)
  obtain ⟨hi, rfl⟩ := Int.eq_ofNat_of_zero_le h0
  obtain ⟨lo, rfl⟩ := Int.eq_ofNat_of_zero_le l0
  rw [Int.toNat_natCast] at b2 b3
  rw [eT, ← hs]
  have pST : 2 ^ s * 2 ^ B = 18446744073709551616 := by rw [← Nat.pow_add, hs, show 64 - B + B = 64 by omega]
  have pS1 : 2 ^ s * 2 ^ (B - 1) = 9223372036854775808 := by rw [← Nat.pow_add, hs, show 64 - B + (B - 1) = 63 by omega]
  have pS : 0 < 2 ^ s := Nat.two_pow_pos s
  have pT : 0 < 2 ^ B := Nat.two_pow_pos B
  have eS : ((2 : Int) ^ s) = ((2 ^ s : Nat) : Int) := by rw [Int.natCast_pow]; rfl
  have eTT : ((2 : Int) ^ B) = ((2 ^ B : Nat) : Int) := by rw [Int.natCast_pow]; rfl
  rw [eS, eTT]
  generalize hSS : 2 ^ s = S at *
  generalize hTT : 2 ^ B = T at *
  have ylo : 9223372036854775808 ≤ y * S := by rw [← pS1, Nat.mul_comm]; exact Nat.mul_le_mul_right _ b2
  have yhi : y * S < 18446744073709551616 := by rw [← pST, Nat.mul_comm S T]; exact Nat.mul_lt_mul_of_pos_right b3 pS
  have hhi : hi * S + S ≤ y * S := by rw [← Nat.succ_mul]; exact Nat.mul_le_mul_right _ (by omega)
  have klt : lo / T < S := by rw [Nat.div_lt_iff_lt_mul pT, pST]; omega
  have hl := Nat.div_add_mod lo T
  have hm := Nat.mod_lt lo pT
  have eL : lo * S = lo / T * 18446744073709551616 + lo % T * S := by
    rw [← pST, ← Nat.mul_assoc, Nat.mul_right_comm, ← Nat.add_mul, Nat.mul_comm (lo / T) T, hl]
  have Llt : lo % T * S < 18446744073709551616 := by rw [← pST, Nat.mul_comm S T]; exact Nat.mul_lt_mul_of_pos_right hm pS
  have eo := bits_or_add hi (lo / T) s (by rw [hSS]; exact klt) (by rw [hSS, Nat.mul_comm]; omega) (by omega)
  rw [hSS, Nat.mul_comm] at eo
  generalize hK : lo / T = K at *
  generalize hM : lo % T * S = L at *
  generalize hYY : y * S = Y at *
  generalize hHH : hi * S = H at *
  have w1 : (y : Int) * (S : Int) = (Y : Int) := by rw [← Int.natCast_mul, hYY]
  have w2 : (hi : Int) * (S : Int) = (H : Int) := by rw [← Int.natCast_mul, hHH]
  have w3 : (lo : Int) * (S : Int) = (K : Int) * 18446744073709551616 + L := by rw [← Int.natCast_mul, eL]; omega
  refine ⟨Y, Y / 4294967296, Y % 4294967296, H, K, H + K, L, L / 4294967296, L % 4294967296, ?_⟩
  exact {
    hY := by rw [w1, IntKind.wrap_u64]; omega
    hA := rfl
    hC := bits_and_low _ (by omega) (by omega)
    hH := by rw [w2, IntKind.wrap_u64]; omega
    hK := by rw [← hK]; rfl
    hU := by rw [eo]; omega
    hL := by rw [w3, IntKind.wrap_u64]; omega
    h1 := rfl
    h0 := bits_and_low _ (by omega) (by omega)
    dig := ⟨by omega, by omega, by omega, by omega, by omega, by omega, by omega, by omega, by omega⟩
    d00 := by omega
    d01 := by omega
    S0 := by omega
    eY := w1.symm
    eN := by rw [Int.add_mul, Int.mul_right_comm, w2, w3]; omega
    Y1 := by omega }
end Go.Proofs.Ythlfbakndbjhoaa
