/- num.digits. -/
import Derived.Test.YthlfbakndbjhoaaDoorNumPp
import Derived.Test.YthlfbakndbjhoaaDoorNumM
set_option linter.unusedSimpArgs false
set_option linter.unusedVariables false
namespace Go.Proofs.YthlfbakndbjhoaaDoor
open Go.RowKit
/-- what digits tells of a text -/
def DigPost (L : List UInt8) (w : World) (e : Ending) (w' : World) : Prop :=
  (∃ x y : Int, ∃ ok : Bool, e = .returned (.tuple #[.int .u64 x, .int .u64 y, .bool ok]) ∧ 0 ≤ x ∧ x ≤ 18446744073709551615 ∧ 0 ≤ y ∧ y ≤ 18446744073709551615 ∧ (L ≠ [] → (∀ b ∈ L, IsDig b) → hor L < 340282366920938463463374607431768211456 → x * 18446744073709551616 + y = hor L ∧ ok = true)) ∧ Below w.heap.size w w'
theorem take_one {L : List UInt8} {k : Nat} (h : k < L.length) : hor (L.take (k + 1)) = hor (L.take k) * 10 + (L[k].toNat - 48) := by
  rw [List.take_succ_eq_append_getElem h, hor_snoc]
theorem DigPost.bad {L : List UInt8} {w w' : World} {k : Nat} (hk : k < L.length) (hb : Below w.heap.size w w') (h : ¬ IsDig L[k] ∨ 340282366920938463463374607431768211456 ≤ hor (L.take (k + 1))) : DigPost L w (.returned (.tuple #[.int .u64 0, .int .u64 0, .bool false])) w' :=
  ⟨⟨0, 0, false, rfl, by omega, by omega, by omega, by omega, fun _ h1 h2 => by
    rcases h with h | h
    · exact absurd (h1 _ (List.getElem_mem hk)) h
    · have := hor_take L (k + 1); omega⟩, hb⟩
set_option maxHeartbeats 4000000 in
set_option maxRecDepth 100000 in
theorem digits_any (L : List UInt8) (w : World) (hL : L.length ≤ 40) :
    Calls Tryd.prog 56 #[strV L] w fun e w' => DigPost L w e w' := by
  unfold strV
  go_enter Tryd.func56, Tryd.ntmps56
  go_wp2_with fail
  go_loopw [2, 3, 4, 5] (fun hi lo ok i wr => ∃ (k : Nat) (x y : Int) (o : Bool), k ≤ L.length ∧ hi = .int .u64 x ∧ lo = .int .u64 y ∧ ok = .bool o ∧ i = .int .i64 k ∧ 0 ≤ x ∧ x ≤ 18446744073709551615 ∧ 0 ≤ y ∧ y ≤ 18446744073709551615 ∧ Hid (x * 18446744073709551616 + y = hor (L.take k)) ∧ Hid (Below w.heap.size w wr)) (fun _ _ _ i _ => L.length - (intOf i).toNat)
  case atStart => exact ⟨0, 0, 0, false, by omega, rfl, rfl, rfl, rfl, by omega, by omega, by omega, by omega, Lib.hid (by simp [hor]), Lib.hid (Below.refl _ _)⟩
  case round =>
    obtain ⟨k, x, y, o, hk, rfl, rfl, rfl, rfl, x0, x1, y0, y1, HX, HI⟩ := hrel
    by_cases hlt : k < L.length
    · obtain ⟨b, hb⟩ : ∃ b, L[k] = b := ⟨_, rfl⟩
      have hbk : ((⟨L.toArray⟩ : ByteArray)[k]'(by simpa [ByteArray.size] using hlt)) = b := hb
      have HBB := Lib.hid hb
      clear hb
      by_cases hd0 : b.toNat < 48
      · go_wp2
        go_ret3
        exact DigPost.bad hlt HI.out (.inl (by rw [HBB.out]; unfold IsDig; omega))
      · by_cases hd1 : 57 < b.toNat
        · go_wp2
          go_ret3
          exact DigPost.bad hlt HI.out (.inl (by rw [HBB.out]; unfold IsDig; omega))
        · obtain ⟨dd, hdd⟩ : ∃ dd, b.toNat - 48 = dd := ⟨_, rfl⟩
          have hds : (b.toNat : Int) - 48 = dd := by omega
          have hdd9 : dd ≤ 9 := by omega
          have HT : Hid (hor (L.take (k + 1)) = hor (L.take k) * 10 + dd) := Lib.hid (by rw [take_one hlt, HBB.out, hdd])
          clear hdd
          obtain ⟨ov, hov⟩ : ∃ v, m64h x 10 = v := ⟨_, rfl⟩
          obtain ⟨up, hup⟩ : ∃ v, m64l x 10 = v := ⟨_, rfl⟩
          obtain ⟨ca, hca⟩ : ∃ v, m64h y 10 = v := ⟨_, rfl⟩
          obtain ⟨lw, hlw⟩ : ∃ v, m64l y 10 = v := ⟨_, rfl⟩
          have m1 := fun w => mul64 x 10 w x0 x1 (by omega) (by omega)
          have m2 := fun w => mul64 y 10 w y0 y1 (by omega) (by omega)
          rw [hov, hup] at m1
          rw [hca, hlw] at m2
          unfold m64h at hov hca
          unfold m64l at hup hlw
          have a1 := fun w => add64 lw dd 0 (by omega) (by omega) (by omega) (by omega) w
          obtain ⟨y', hy'⟩ : ∃ v, a64l lw dd 0 = v := ⟨_, rfl⟩
          obtain ⟨mo, hmo⟩ : ∃ v, a64h lw dd 0 = v := ⟨_, rfl⟩
          rw [hy', hmo] at a1
          unfold a64l at hy'
          unfold a64h at hmo
          have a2 := fun w => add64 up ca mo (by omega) (by omega) (by omega) (by omega) w
          obtain ⟨x', hx'⟩ : ∃ v, a64l up ca mo = v := ⟨_, rfl⟩
          obtain ⟨la, hla⟩ : ∃ v, a64h up ca mo = v := ⟨_, rfl⟩
          rw [hx', hla] at a2
          unfold a64l at hx'
          unfold a64h at hla
          have HY : Hid (0 ≤ x' ∧ x' ≤ 18446744073709551615 ∧ 0 ≤ y' ∧ y' ≤ 18446744073709551615 ∧ (ov = 0 → la = 0 → x' * 18446744073709551616 + y' = hor (L.take (k + 1))) ∧ (ov ≠ 0 ∨ la ≠ 0 → 340282366920938463463374607431768211456 ≤ hor (L.take (k + 1)))) := Lib.hid (by
            have h1 := HT.out
            have h2 := HX.out
            refine ⟨by omega, by omega, by omega, by omega, fun e1 e2 => by omega, fun e => by omega⟩)
          clear hov hup hca hlw hy' hmo hx' hla
          go_wp2_with fail
          refine (m1 _).mono ?_; rintro e w2 ⟨rfl, rfl⟩
          go_wp2_with fail
          refine (m2 _).mono ?_; rintro e w3 ⟨rfl, rfl⟩
          by_cases ho : ov = 0
          · subst ho
            by_cases hl0 : la = 0
            · subst hl0
              go_wp2_with (simp only [a1, a2])
              exact ⟨⟨k + 1, x', y', o, by omega, rfl, rfl, rfl, by rw [Int.natCast_succ], HY.out.1, HY.out.2.1, HY.out.2.2.1, HY.out.2.2.2.1, Lib.hid (HY.out.2.2.2.2.1 rfl rfl), HI⟩, by simp only [intOf]; omega⟩
            · have hl1 : (la != 0) = true := by simpa using hl0
              go_wp2_with (simp only [a1, a2])
              go_ret3
              exact DigPost.bad hlt HI.out (.inr (HY.out.2.2.2.2.2 (.inr hl0)))
          · have ho1 : (ov != 0) = true := by simpa using ho
            go_wp2_with (simp only [a1, a2])
            go_ret3
            exact DigPost.bad hlt HI.out (.inr (HY.out.2.2.2.2.2 (.inl ho)))
    · go_wp2
      go_ret3
      obtain rfl : k = L.length := by omega
      have hx := HX.out
      rw [List.take_length] at hx
      exact ⟨⟨x, y, !L.isEmpty, rfl, x0, x1, y0, y1, fun h1 _ _ => ⟨hx, by simpa using h1⟩⟩, HI.out⟩
end Go.Proofs.YthlfbakndbjhoaaDoor
