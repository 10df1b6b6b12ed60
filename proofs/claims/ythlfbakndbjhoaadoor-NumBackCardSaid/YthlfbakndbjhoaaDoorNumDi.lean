/- The reference's division of two words by one, bit for bit. -/
import Derived.Test.YthlfbakndbjhoaaDoorNumDw
import Derived.Test.YthlfbakndbjhoaaDoorNumReck
set_option linter.unusedSimpArgs false
set_option linter.unusedVariables false
namespace Go.Proofs.YthlfbakndbjhoaaDoor
open Go.RowKit
/-- the division when t bits are still to come -/
structure DV (hi lo n : Int) (t : Nat) (a b c : Int) : Prop where
  a0 : 0 ≤ a
  b0 : 0 ≤ b
  b1 : b ≤ 18446744073709551615
  c0 : 0 ≤ c
  c1 : c < n
  e : (hi * 18446744073709551616 + lo) / 2 ^ t = (a * 18446744073709551616 + b) * n + c
theorem bits_and_one (L : Int) (h0 : 0 ≤ L) (h1 : L ≤ 18446744073709551615) : bits .and .u64 L 1 = L % 2 := by
  obtain ⟨l, rfl⟩ : ∃ l : Nat, L = l := ⟨L.toNat, by omega⟩
  have h := u64_and_nat l 1 (by omega) (by omega)
  rw [show ((1 : Nat) : Int) = 1 from rfl] at h
  rw [h, Nat.and_one_is_mod]
  omega
theorem or_two (x y : Int) (h0 : 0 ≤ x) (h1 : x ≤ 9223372036854775807) (hy : y = 0 ∨ y = 1) : bits .or .u64 (IntKind.u64.wrap (x * 2)) y = 2 * x + y := by
  have e : IntKind.u64.wrap (x * 2) = 2 * x := by rw [IntKind.wrap_u64]; omega
  rw [e]
  obtain ⟨a, rfl⟩ : ∃ a : Nat, x = a := ⟨x.toNat, by omega⟩
  obtain ⟨c, rfl, hc⟩ : ∃ c : Nat, y = c ∧ c < 2 := by
    rcases hy with h | h
    · exact ⟨0, by omega, by omega⟩
    · exact ⟨1, by omega, by omega⟩
  have h := bits_or_add a c 1 (by omega) (by omega) (by omega)
  have e1 : ((2 ^ 1 * a : Nat) : Int) = 2 * (a : Int) := by omega
  have e2 : ((2 ^ 1 * a + c : Nat) : Int) = 2 * (a : Int) + c := by omega
  rw [e1, e2] at h
  exact h
theorem or_two_mod (x : Int) (h0 : 0 ≤ x) (h1 : x ≤ 18446744073709551615) : bits .or .u64 (IntKind.u64.wrap (x * 2)) 1 = (2 * x) % 18446744073709551616 + 1 := by
  have e : IntKind.u64.wrap (x * 2) = IntKind.u64.wrap ((x % 9223372036854775808) * 2) := by rw [IntKind.wrap_u64, IntKind.wrap_u64]; omega
  rw [e, or_two _ 1 (by omega) (by omega) (.inr rfl)]
  omega
/-- bit k of the number -/
theorem bit_hi (hi lo : Int) (k : Nat) (l0 : 0 ≤ lo) (l1 : lo ≤ 18446744073709551615) (hk : 64 ≤ k) : hi / 2 ^ (k - 64) = (hi * 18446744073709551616 + lo) / 2 ^ k := by
  obtain ⟨j, rfl⟩ : ∃ j, k = 64 + j := ⟨k - 64, by omega⟩
  have e64 : (2 : Int) ^ 64 = 18446744073709551616 := by decide
  have e : (2 : Int) ^ (64 + j) = 18446744073709551616 * 2 ^ j := by rw [Int.pow_add, e64]
  rw [e, ← Int.ediv_ediv_of_nonneg (by omega), show 64 + j - 64 = j by omega, show (hi * 18446744073709551616 + lo) / 18446744073709551616 = hi by omega]
theorem bit_lo (hi lo : Int) (k : Nat) (hk : k ≤ 63) : (lo / 2 ^ k) % 2 = ((hi * 18446744073709551616 + lo) / 2 ^ k) % 2 := by
  have e64 : (2 : Int) ^ 64 = 18446744073709551616 := by decide
  have e : (18446744073709551616 : Int) = 2 ^ k * (2 * 2 ^ (63 - k)) := by
    rw [← e64]
    have h1 : (2 : Int) ^ 64 = 2 ^ (k + (1 + (63 - k))) := congrArg _ (by omega)
    rw [h1, Int.pow_add, Int.pow_add]
    rfl
  clear e64
  have hp : (2 : Int) ^ k ≠ 0 := by
    have : (0 : Int) < 2 ^ k := Int.pow_pos (by omega)
    omega
  rw [e, show hi * (2 ^ k * (2 * 2 ^ (63 - k))) + lo = lo + 2 ^ k * (hi * (2 * 2 ^ (63 - k))) by rw [Int.mul_left_comm, Int.add_comm], Int.add_mul_ediv_left _ _ hp]
  rw [show hi * (2 * 2 ^ (63 - k)) = 2 * (hi * 2 ^ (63 - k)) by rw [Int.mul_left_comm]]
  omega
theorem half_step (N : Int) (k : Nat) : N / 2 ^ (k + 1) = N / 2 ^ k / 2 := by
  have hp : (0 : Int) ≤ 2 ^ k := Int.le_of_lt (Int.pow_pos (by omega))
  rw [Int.pow_succ, ← Int.ediv_ediv_of_nonneg hp]
theorem DV.top {hi lo n : Int} {k : Nat} {a b c : Int} (h : DV hi lo n (k + 1) a b c) (h0 : 0 ≤ hi) (h1 : hi ≤ 18446744073709551615) (l0 : 0 ≤ lo) (l1 : lo ≤ 18446744073709551615) (n0 : 1 ≤ n) : a ≤ 9223372036854775807 := by
  obtain ⟨a0, b0, b1, c0, c1, e⟩ := h
  rw [half_step] at e
  have hN : (hi * 18446744073709551616 + lo) / 2 ^ k ≤ hi * 18446744073709551616 + lo := Int.ediv_le_self _ (by omega)
  have hq : (a * 18446744073709551616 + b) * 1 ≤ (a * 18446744073709551616 + b) * n := Int.mul_le_mul_of_nonneg_left n0 (by omega)
  omega
theorem DV.yes {hi lo n : Int} {k : Nat} {a b c t : Int} (h : DV hi lo n (k + 1) a b c) (ht : t = ((hi * 18446744073709551616 + lo) / 2 ^ k) % 2) (hge : n ≤ 2 * c + t) :
    DV hi lo n k (2 * a + b / 9223372036854775808) ((2 * b) % 18446744073709551616 + 1) (2 * c + t - n) := by
  obtain ⟨a0, b0, b1, c0, c1, e⟩ := h
  rw [half_step] at e
  refine ⟨by omega, by omega, by omega, by omega, by omega, ?_⟩
  have e2 : (2 * a + b / 9223372036854775808) * 18446744073709551616 + ((2 * b) % 18446744073709551616 + 1) = 2 * (a * 18446744073709551616 + b) + 1 := by omega
  rw [e2, Int.add_mul, Int.mul_assoc, ← (show (hi * 18446744073709551616 + lo) / 2 ^ k / 2 - c = (a * 18446744073709551616 + b) * n by omega)]
  omega
theorem DV.no {hi lo n : Int} {k : Nat} {a b c t : Int} (h : DV hi lo n (k + 1) a b c) (ht : t = ((hi * 18446744073709551616 + lo) / 2 ^ k) % 2) (hlt : 2 * c + t < n) :
    DV hi lo n k (2 * a + b / 9223372036854775808) ((2 * b) % 18446744073709551616) (2 * c + t) := by
  obtain ⟨a0, b0, b1, c0, c1, e⟩ := h
  rw [half_step] at e
  refine ⟨by omega, by omega, by omega, by omega, by omega, ?_⟩
  have e2 : (2 * a + b / 9223372036854775808) * 18446744073709551616 + (2 * b) % 18446744073709551616 = 2 * (a * 18446744073709551616 + b) := by omega
  rw [e2, Int.mul_assoc, ← (show (hi * 18446744073709551616 + lo) / 2 ^ k / 2 - c = (a * 18446744073709551616 + b) * n by omega)]
  omega
set_option maxHeartbeats 4000000 in
set_option maxRecDepth 100000 in
theorem divided_any (hi lo n : Int) (w : World) (h0 : 0 ≤ hi) (h1 : hi ≤ 18446744073709551615) (l0 : 0 ≤ lo) (l1 : lo ≤ 18446744073709551615) (n0 : 1 ≤ n) (n1 : n ≤ 9223372036854775808) :
    Calls Tryd.prog 59 #[.int .u64 hi, .int .u64 lo, .int .u64 n] w fun e w' => e = .returned (.tuple #[.int .u64 ((hi * 18446744073709551616 + lo) / n / 18446744073709551616), .int .u64 ((hi * 18446744073709551616 + lo) / n % 18446744073709551616), .int .u64 ((hi * 18446744073709551616 + lo) % n)]) ∧ Below w.heap.size w w' := by
  go_enter Tryd.func59, Tryd.ntmps59
  go_wp2_with fail
  go_loopw [9, 10, 11, 12] (fun qh ql lf i wr => ∃ (t : Nat) (a b c : Int), t ≤ 128 ∧ qh = .int .u64 a ∧ ql = .int .u64 b ∧ lf = .int .u64 c ∧ i = .int .i64 (t - 1) ∧ Hid (DV hi lo n t a b c) ∧ wr = w) (fun _ _ _ i _ => (intOf i + 1).toNat)
  case atStart => exact ⟨128, 0, 0, 0, by omega, rfl, rfl, rfl, rfl, Lib.hid ⟨by omega, by omega, by omega, by omega, by omega, by
    rw [Int.zero_mul, Int.zero_add, Int.zero_mul, Int.zero_add]
    exact Int.ediv_eq_zero_of_lt (by omega) (by
      have : (2 : Int) ^ 128 = 340282366920938463463374607431768211456 := by decide
      rw [this]; omega)⟩, rfl⟩
  case round =>
    obtain ⟨t, a, b, c, ht, rfl, rfl, rfl, rfl, HI, rfl⟩ := hrel
    rcases Nat.eq_zero_or_pos t with h | h
    · subst h
      obtain ⟨a0, b0, b1, c0, c1, e⟩ := HI.out
      rw [Int.pow_zero, Int.ediv_one] at e
      have q1 : (hi * 18446744073709551616 + lo) / n = a * 18446744073709551616 + b := by
        rw [e, Int.add_comm, Int.mul_comm, Int.add_mul_ediv_left _ _ (by omega), Int.ediv_eq_zero_of_lt c0 c1, Int.zero_add]
      have q2 : (hi * 18446744073709551616 + lo) % n = c := by
        rw [e, Int.add_comm, Int.mul_comm, Int.add_mul_emod_self_left, Int.emod_eq_of_lt c0 c1]
      have q3 : (a * 18446744073709551616 + b) / 18446744073709551616 = a := by omega
      have q4 : (a * 18446744073709551616 + b) % 18446744073709551616 = b := by omega
      have H1 := Lib.hid q1
      have H2 := Lib.hid q2
      have H3 := Lib.hid q3
      have H4 := Lib.hid q4
      clear q1 q2 q3 q4 e HI
      go_wp2
      go_ret3
      rw [H1.out, H2.out, H3.out, H4.out]
      exact ⟨rfl, Below.refl _ _⟩
    · obtain ⟨k, rfl⟩ : ∃ k, t = k + 1 := ⟨t - 1, by omega⟩
      have e1 : ((k + 1 : Nat) : Int) - 1 = k := by omega
      rw [e1]
      have hP : (0 : Int) < 2 ^ k := Int.pow_pos (by omega)
      obtain ⟨bt, hbt, hb01⟩ : ∃ bt, bt = ((hi * 18446744073709551616 + lo) / 2 ^ k) % 2 ∧ (bt = 0 ∨ bt = 1) := ⟨_, rfl, by omega⟩
      have hct := HI.out.c1
      have hc0 := HI.out.c0
      have r1 := or_two a (b / 9223372036854775808) HI.out.a0 (HI.out.top h0 h1 l0 l1 n0) (by have := HI.out.b0; have := HI.out.b1; omega)
      have r2 := or_two c bt hc0 (by omega) hb01
      have r3 := or_two_mod b HI.out.b0 HI.out.b1
      have r4 : IntKind.u64.wrap (b * 2) = (2 * b) % 18446744073709551616 := by rw [IntKind.wrap_u64]; omega
      rw [r4] at r3
      have HY := fun hge => Lib.hid (HI.out.yes hbt hge)
      have HN := fun hlt => Lib.hid (HI.out.no hbt hlt)
      have hr5 : IntKind.u64.wrap (2 * c + bt - n) = 2 * c + bt - n ∨ 2 * c + bt < n := by
        rw [IntKind.wrap_u64]; omega
      have hX : ∀ bt', bt' = bt → bits .or .u64 (IntKind.u64.wrap (c * 2)) bt' = bits .or .u64 (IntKind.u64.wrap (c * 2)) bt := fun _ h => by rw [h]
      generalize hC : 2 * c + bt = c2 at *
      have hbh : 63 < k → bits .and .u64 (hi / 2 ^ (k - 64)) 1 = bt := fun hk => by
        rw [bits_and_one _ (Int.ediv_nonneg h0 (Int.le_of_lt (Int.pow_pos (by omega)))) (Int.le_trans (Int.ediv_le_self _ h0) h1), bit_hi hi lo k l0 l1 (by omega), hbt]
      have hbl : k ≤ 63 → bits .and .u64 (lo / 2 ^ k) 1 = bt := fun hk => by
        rw [bits_and_one _ (Int.ediv_nonneg l0 (Int.le_of_lt hP)) (Int.le_trans (Int.ediv_le_self _ l0) l1), bit_lo hi lo k hk, hbt]
      generalize 2 * a + b / 9223372036854775808 = a2 at *
      generalize 2 * b % 18446744073709551616 = b2 at *
      generalize b2 + 1 = b3 at *
      clear hbt hb01 hX hc0 hct hP HI
      by_cases hge : n ≤ c2
      · have HZ := HY hge
        have r5 : IntKind.u64.wrap (c2 - n) = c2 - n := by omega
        clear HY HN hr5 hC
        obtain ⟨c3, hc3⟩ : ∃ x, x = c2 - n := ⟨_, rfl⟩
        rw [← hc3] at HZ
        rw [← hc3] at r5
        rw [hc3] at r5
        have r6 : IntKind.u64.wrap (c2 - n) = c3 := by rw [r5, hc3]
        clear r5 hc3
        by_cases hk : 63 < k
        · have hb := hbh hk
          clear hbh hbl
          go_wp2
          exact ⟨⟨k, _, _, _, by omega, rfl, rfl, rfl, rfl, HZ, trivial⟩, by simp only [intOf]; omega⟩
        · have hb := hbl (by omega)
          clear hbh hbl
          go_wp2
          exact ⟨⟨k, _, _, _, by omega, rfl, rfl, rfl, rfl, HZ, trivial⟩, by simp only [intOf]; omega⟩
      · have HZ := HN (by omega)
        clear HY HN hr5 hC
        by_cases hk : 63 < k
        · have hb := hbh hk
          clear hbh hbl
          go_wp2
          exact ⟨⟨k, _, _, _, by omega, rfl, rfl, rfl, rfl, HZ, trivial⟩, by simp only [intOf]; omega⟩
        · have hb := hbl (by omega)
          clear hbh hbl
          go_wp2
          exact ⟨⟨k, _, _, _, by omega, rfl, rfl, rfl, rfl, HZ, trivial⟩, by simp only [intOf]; omega⟩
end Go.Proofs.YthlfbakndbjhoaaDoor
