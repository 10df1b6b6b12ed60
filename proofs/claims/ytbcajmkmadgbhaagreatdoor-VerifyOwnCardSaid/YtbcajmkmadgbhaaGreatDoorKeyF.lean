/- The document's right, IsName, IsText, IsWord, Name, Text, Escape. -/
import Derived.Test.YtbcajmkmadgbhaaGreatDoorKeyB
import Derived.Test.YtbcajmkmadgbhaaGreatDoorKeyE
set_option linter.unusedSimpArgs false
set_option linter.unusedVariables false
namespace Go.Proofs.YtbcajmkmadgbhaaGreatDoor
open Go.RowKit
set_option maxHeartbeats 2000000 in
set_option maxRecDepth 100000 in
theorem rright_any (l : List UInt8) (most : Nat) (mi : Int) (w : World) (hl : l.length ≤ 9223372036854775807) (hm : mi = most) :
    Calls Tryz.prog 106 #[strV l, .int .i64 mi] w fun e w' => e = .returned (.bool (rightB l most)) ∧ w = w' := by
  unfold rightB
  by_cases hne : l = []
  · subst hne
    go_enter Tryz.func106, Tryz.ntmps106
    go_wp2
    go_ret
    exact ⟨rfl, rfl⟩
  · have hne2 : l.isEmpty = false := by simpa using hne
    have hne3 : (l == []) = false := by simpa using hne
    by_cases hle : l.length ≤ most
    · have hle2 : decide (mi < (l.length : Int)) = false := by simp; omega
      have hle3 : decide (l.length ≤ most) = true := by simpa using hle
      rw [hne2, hle3]
      obtain ⟨R, hR⟩ : ∃ R, goodL l = R := ⟨_, rfl⟩
      rw [hR]
      have HR : Bx (goodL l = R) := ⟨hR⟩
      clear hle hle3 hm hne hR
      go_enter Tryz.func106, Tryz.ntmps106
      go_wp2_with fail
      go_loopw [5] (fun i wr => ∃ k : Nat, k ≤ l.length ∧ i = .int .i64 k ∧ Bx (goodL (l.drop k) = R) ∧ wr = w) (fun i _ => l.length - (intOf i).toNat)
      case atStart => exact ⟨0, by omega, rfl, ⟨by rw [List.drop_zero]; exact HR.out⟩, rfl⟩
      case round =>
        obtain ⟨k, hk, rfl, HK, rfl⟩ := hrel
        clear HR
        by_cases hlt : k < l.length
        · have hex : (⟨l.toArray⟩ : ByteArray).extract k l.length = ⟨(l.drop k).toArray⟩ := by
            apply ByteArray.ext
            simp [ByteArray.data_extract]
            exact List.take_of_length_le (by rw [List.length_drop]; omega)
          have hdne : l.drop k ≠ [] := by
            intro e; have := congrArg List.length e; rw [List.length_drop] at this; simp at this; omega
          obtain ⟨a, ha⟩ : ∃ a, l.getD k 0 = a := ⟨_, rfl⟩
          have hd0 : (l.drop k).getD 0 0 = a := by rw [← ha]; simp [List.getD_eq_getElem?_getD]
          have hak : ((⟨l.toArray⟩ : ByteArray)[k]'(by simpa [ByteArray.size] using hlt)) = a := by rw [getD_toArray' hlt, ha]
          have kw := fun w => wide_any (l.drop k) w (by rw [List.length_drop]; omega)
          have hwl := wideL_le (l.drop k)
          rw [List.length_drop] at hwl
          have hbad := goodL_bad hdne
          have hstep := goodL_step hdne
          rw [hd0, HK.out] at hbad hstep
          rw [List.drop_drop] at hstep
          obtain ⟨n, hn⟩ : ∃ n, wideL (l.drop k) = n := ⟨_, rfl⟩
          rw [hn] at kw hwl hbad hstep
          have HBad : Bx (n = 0 ∨ a.toNat < 32 ∨ a.toNat = 127 → R = false) := ⟨hbad⟩
          have HStep : Bx (¬ (n = 0 ∨ a.toNat < 32 ∨ a.toNat = 127) → R = goodL (l.drop (k + n))) := ⟨hstep⟩
          clear hbad hstep hn hd0 ha hdne HK
          go_wp2_with fail
          refine (kw _).mono ?_
          rintro e w2 ⟨rfl, rfl⟩
          clear kw hex
          by_cases hn0 : n = 0
          · have := HBad.out (.inl hn0)
            subst this
            have hb0 : ((n : Int) == 0) = true := by simpa using hn0
            clear HBad HStep
            go_wp2
            go_ret
            exact ⟨rfl, rfl⟩
          · have hb0 : ((n : Int) == 0) = false := by simpa using hn0
            by_cases h32 : a.toNat < 32
            · have := HBad.out (.inr (.inl h32))
              subst this
              clear HBad HStep
              go_wp2
              go_ret
              exact ⟨rfl, rfl⟩
            · by_cases h127 : a.toNat = 127
              · have := HBad.out (.inr (.inr h127))
                subst this
                have hb1 : ((a.toNat : Int) == 127) = true := by simp; omega
                have hb2 : decide ((a.toNat : Int) < 32) = false := by simp; omega
                clear HBad HStep h127
                go_wp2
                go_ret
                exact ⟨rfl, rfl⟩
              · have hs := HStep.out (by omega)
                have hb1 : ((a.toNat : Int) == 127) = false := by simp; omega
                have hb2 : decide ((a.toNat : Int) < 32) = false := by simp; omega
                have HS : Bx (goodL (l.drop (k + n)) = R) := ⟨hs.symm⟩
                clear HBad HStep hs h127
                go_wp2
                exact ⟨⟨k + n, by omega, by rw [Int.natCast_add], HS, trivial⟩, by simp only [intOf]; omega⟩
        · obtain rfl : k = l.length := by omega
          have hR : true = R := by have := HK.out; rwa [List.drop_length, goodL_nil] at this
          subst hR
          go_wp2
          go_ret
          exact ⟨rfl, rfl⟩
    · have hle2 : decide (mi < (l.length : Int)) = true := by simp; omega
      have hle3 : decide (l.length ≤ most) = false := by simpa using hle
      rw [hne2, hle3]
      clear hle hle3 hm hne
      go_enter Tryz.func106, Tryz.ntmps106
      go_wp2
      go_ret
      exact ⟨rfl, rfl⟩
theorem isName_any (l : List UInt8) (w : World) (hl : l.length ≤ 9223372036854775807) :
    Calls Tryz.prog 90 #[strV l] w fun e w' => e = .returned (.bool (rightB l 64)) ∧ w = w' := by
  have kr := fun w => rright_any l 64 64 w hl rfl
  generalize rightB l 64 = R at *
  go_enter Tryz.func90, Tryz.ntmps90
  go_wp2_with fail
  refine (kr _).mono ?_
  rintro e w1 ⟨rfl, rfl⟩
  go_wp2
  go_ret
  exact ⟨rfl, rfl⟩
theorem isText_any (l : List UInt8) (w : World) (hl : l.length ≤ 9223372036854775807) :
    Calls Tryz.prog 93 #[strV l] w fun e w' => e = .returned (.bool (rightB l 256)) ∧ w = w' := by
  have kr := fun w => rright_any l 256 256 w hl rfl
  generalize rightB l 256 = R at *
  go_enter Tryz.func93, Tryz.ntmps93
  go_wp2_with fail
  refine (kr _).mono ?_
  rintro e w1 ⟨rfl, rfl⟩
  go_wp2
  go_ret
  exact ⟨rfl, rfl⟩
theorem isWord_any (l : List UInt8) (w : World) (hl : l.length ≤ 9223372036854775807) :
    Calls Tryz.prog 91 #[strV l] w fun e w' => e = .returned (.bool (wordB l)) ∧ w = w' := by
  unfold wordB
  have kr := fun w => isName_any l w hl
  generalize rightB l 64 = R at *
  obtain ⟨T, hT⟩ : ∃ T, (l != timeL) = T := ⟨_, rfl⟩
  rw [hT]
  have hT2 : (l != [116, 105, 109, 101]) = T := hT
  have hT3 : (!(l == [116, 105, 109, 101])) = T := hT
  clear hl hT
  cases R
  all_goals
    go_enter Tryz.func91, Tryz.ntmps91
    go_wp2_with fail
    refine (kr _).mono ?_
    rintro e w1 ⟨rfl, rfl⟩
    clear kr
    go_wp2
    go_ret
    exact ⟨rfl, rfl⟩
end Go.Proofs.YtbcajmkmadgbhaaGreatDoor
