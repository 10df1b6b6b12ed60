/- cmp.Compare at texts, cmp.Or, the program's comparison of tags. -/
import Derived.Test.YtnpagnghnohmdaaDoorKeyP
import Derived.StillTailTactics
set_option linter.unusedSimpArgs false
set_option linter.unusedVariables false
namespace Go.Proofs.YtnpagnghnohmdaaDoor
open Go.RowKit
theorem nan_any (a : List UInt8) (w : World) :
    Calls Tryd.prog 84 #[strV a] w fun e w' => e = .returned (.bool false) ∧ w = w' := by
  go_enter Tryd.func84, Tryd.ntmps84
  go_wp2
  go_ret
  exact ⟨by simp, rfl⟩
theorem ccmp_any (a b : List UInt8) (w : World) :
    Calls Tryd.prog 63 #[strV a, strV b] w fun e w' => e = .returned (.int .i64 (cmpL a b)) ∧ w = w' := by
  have kn := fun a w => nan_any a w
  unfold cmpL
  obtain ⟨L, hL⟩ : ∃ L, Op.bytesLess a b = L := ⟨_, rfl⟩
  obtain ⟨E, hE⟩ : ∃ E, (a == b) = E := ⟨_, rfl⟩
  rw [hL, hE]
  cases L <;> cases E <;>
  · go_enter Tryd.func63, Tryd.ntmps63
    go_wp2_with (go_at_call 84; refine (kn _ _).mono ?_; rintro e w' ⟨rfl, rfl⟩)
    go_ret
    exact ⟨rfl, rfl⟩
/-- the first of them that is not 0 -/
def orL : List Int → Int
  | [] => 0
  | x :: r => if x = 0 then orL r else x
set_option maxHeartbeats 2000000 in
theorem or_any (b : Nat) (l : List Int) (c : Nat) (w : World) (hl : l.length ≤ 9223372036854775807) (hr : ∀ i (h : i < l.length), w.cell? ⟨b, i, none⟩ = some (.int .i64 l[i])) :
    Calls Tryd.prog 62 #[.slice (some ⟨b, 0, none⟩) l.length c] w fun e w' => e = .returned (.int .i64 (orL l)) ∧ w = w' := by
  have HR : Bx _ := ⟨hr⟩
  obtain ⟨C, hC⟩ : ∃ C, orL l = C := ⟨_, rfl⟩
  rw [hC]
  have HC : Bx (orL (l.drop 0) = C) := ⟨by rw [List.drop_zero]; exact hC⟩
  clear hr hC
  go_enter Tryd.func62, Tryd.ntmps62
  go_wp2_with fail
  go_loopw [8] (fun i wr => ∃ k : Nat, k ≤ l.length ∧ i = .int .i64 k ∧ Bx (orL (l.drop k) = C) ∧ wr = w) (fun i _ => l.length - (intOf i).toNat)
  case atStart => exact ⟨0, by omega, rfl, HC, rfl⟩
  case round =>
    obtain ⟨k, hk, rfl, HK, rfl⟩ := hrel
    clear HC
    by_cases hlt : k < l.length
    · have hc := HR.out k hlt
      have HD : Bx ((if l[k] = 0 then orL (l.drop (k + 1)) else l[k]) = C) := ⟨by have h := HK.out; rw [List.drop_eq_getElem_cons hlt] at h; exact h⟩
      generalize l[k] = x at *
      by_cases hx : x = 0
      · have d : (x != 0) = false := by simpa using hx
        have HE : Bx (orL (l.drop (k + 1)) = C) := ⟨by have := HD.out; rwa [if_pos hx] at this⟩
        clear HD hx HK
        go_wp2
        exact ⟨⟨k + 1, by omega, by rw [Int.natCast_succ], HE, trivial⟩, by simp only [intOf]; omega⟩
      · have d : (x != 0) = true := by simpa using hx
        have HE : Bx (x = C) := ⟨by have := HD.out; rwa [if_neg hx] at this⟩
        clear HD hx HK
        go_wp2
        go_ret
        exact ⟨by rw [← HE.out]; rfl, rfl⟩
    · have HE : Bx ((0 : Int) = C) := ⟨by have h := HK.out; rw [List.drop_eq_nil_of_le (by omega)] at h; exact h⟩
      clear HK
      go_wp2
      go_ret
      exact ⟨by rw [← HE.out]; rfl, rfl⟩
end Go.Proofs.YtnpagnghnohmdaaDoor
