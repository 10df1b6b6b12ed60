/- key.right, word, Name, Text: what is right of a text. Conditions: the two tables of unicode/utf8 and errors.errorType hold what the program's text lays in them. -/
import Derived.Test.YtbaopcpmmdmomaaGreatDoorKeyC
import Derived.Lib.QuietBelow
set_option linter.unusedSimpArgs false
set_option linter.unusedVariables false
namespace Go.Proofs.YtbaopcpmmdmomaaGreatDoor
open Go.RowKit
/-- what the listed variables hold -/
structure GlobK (w : World) : Prop where
  g : Glob w
  t : Lib.Utf8Tabs 1 2 w
theorem GlobK.below {w w' : World} (h : GlobK w) (hb : Below w.heap.size w w') : GlobK w' := ⟨h.g.below hb h.g.lt, Go.Proofs.Utf8Tabs_below h.t hb⟩
theorem ctl_gives (w : World) : PredAt Tryz.prog 78 #[] encR ctl w := fun W r _ => by
  unfold FnGives
  by_cases h : r < 32
  · rw [show ctl r = true by unfold ctl; simp [h]]
    go_enter Tryz.func78, Tryz.ntmps78
    go_wp2
    go_ret
    exact ⟨rfl, 0, rfl⟩
  · by_cases h2 : r = 127
    · subst h2
      rw [show ctl 127 = true by decide]
      go_enter Tryz.func78, Tryz.ntmps78
      go_wp2
      go_ret
      exact ⟨rfl, 0, rfl⟩
    · rw [show ctl r = false by unfold ctl; simp [h, h2]]
      have hb : ((r : Int) == 127) = false := by simp; omega
      have hb0 : decide ((r : Int) < 32) = false := by simp; omega
      go_enter Tryz.func78, Tryz.ntmps78
      go_wp2
      go_ret
      exact ⟨rfl, 0, rfl⟩
theorem valid_list (l : List UInt8) (w : World) (hl : l.length ≤ 9223372036854775807) (hG : GlobK w) :
    Calls Tryz.prog 79 #[strV l] w fun e w' => e = .returned (.bool (Lib.validD l)) ∧ Below w.heap.size w w' := by
  have := Tryz.utf8_ValidString ⟨l.toArray⟩ w (by simpa [ByteArray.size] using hl) hG.t
  simpa using this
theorem contains_list (l : List UInt8) (w : World) :
    Calls Tryz.prog 80 #[strV l, .func (.func 78) #[] #[]] w fun e w' => e = .returned (.bool (decide (0 ≤ Lib.idxFunc ctl true ⟨l.toArray⟩))) ∧ Below w.heap.size w w' := by
  have eg := enters_of Tryz.func78 (by kernel_rfl) rfl
  exact Tryz.strings_ContainsFunc 78 #[] eg ctl ⟨l.toArray⟩ w (ctl_gives w)
set_option maxHeartbeats 2000000 in
set_option maxRecDepth 100000 in
theorem right_any (l : List UInt8) (most : Nat) (mi : Int) (w : World) (hl : l.length ≤ 9223372036854775807) (hm : mi = most) (hG : GlobK w) :
    Calls Tryz.prog 68 #[strV l, .int .i64 mi] w fun e w' => e = .returned (.bool (rightB l most)) ∧ Below w.heap.size w w' := by
  unfold rightB
  rw [good_eq]
  by_cases hne : l = []
  · subst hne
    go_enter Tryz.func68, Tryz.ntmps68
    go_wp2
    go_ret
    exact ⟨rfl, Below.refl _ _⟩
  · have hne2 : l.isEmpty = false := by simpa using hne
    have hne3 : (l == []) = false := by simpa using hne
    by_cases hle : l.length ≤ most
    · have hle2 : decide ((l.length : Int) ≤ mi) = true := by simp; omega
      have hle3 : decide (l.length ≤ most) = true := by simpa using hle
      rw [hne2, hle3]
      have kv := fun w h => valid_list l w hl h
      have kc := fun w => contains_list l w
      have HGK : Bx (GlobK w) := ⟨hG⟩
      generalize Lib.validD l = V at *
      generalize decide (0 ≤ Lib.idxFunc ctl true ⟨l.toArray⟩) = C at *
      clear hle hle3 hm hne hl hG
      cases V
      · go_enter Tryz.func68, Tryz.ntmps68
        go_wp2_with fail
        refine (kv _ HGK.out).mono ?_
        rintro e w1 ⟨rfl, h1⟩
        have H1 : Bx (Below w.heap.size w w1) := ⟨h1⟩
        clear h1 kv kc
        go_wp2
        go_ret
        exact ⟨rfl, H1.out⟩
      · go_enter Tryz.func68, Tryz.ntmps68
        go_wp2_with fail
        refine (kv _ HGK.out).mono ?_
        rintro e w1 ⟨rfl, h1⟩
        have H1 : Bx (Below w.heap.size w w1) := ⟨h1⟩
        clear h1 kv
        go_wp2_with fail
        refine (kc _).mono ?_
        rintro e w2 ⟨rfl, h2⟩
        have H2 : Bx (Below w.heap.size w w2) := ⟨H1.out.trans (h2.mono H1.out.size)⟩
        clear h2 kc
        cases C
        all_goals
          go_wp2
          go_ret
          exact ⟨rfl, H2.out⟩
    · have hle2 : decide ((l.length : Int) ≤ mi) = false := by simp; omega
      have hle3 : decide (l.length ≤ most) = false := by simpa using hle
      rw [hne2, hle3]
      clear hle hle3 hm hne
      go_enter Tryz.func68, Tryz.ntmps68
      go_wp2
      go_ret
      exact ⟨rfl, Below.refl _ _⟩
set_option maxHeartbeats 2000000 in
theorem word_any (l : List UInt8) (w : World) (hl : l.length ≤ 9223372036854775807) (hG : GlobK w) :
    Calls Tryz.prog 62 #[strV l] w fun e w' => e = .returned (.bool (wordB l)) ∧ Below w.heap.size w w' := by
  unfold wordB
  have kr := fun w h => right_any l 64 64 w hl rfl h
  have HGK : Bx (GlobK w) := ⟨hG⟩
  generalize rightB l 64 = R at *
  obtain ⟨T, hT⟩ : ∃ T, (l != timeL) = T := ⟨_, rfl⟩
  rw [hT]
  have hT2 : (l != [116, 105, 109, 101]) = T := hT
  have hT3 : (!(l == [116, 105, 109, 101])) = T := hT
  clear hl hG hT
  cases R
  all_goals
    go_enter Tryz.func62, Tryz.ntmps62
    go_wp2_with fail
    refine (kr _ HGK.out).mono ?_
    rintro e w1 ⟨rfl, h1⟩
    have H1 : Bx (Below w.heap.size w w1) := ⟨h1⟩
    clear h1 kr
    go_wp2
    go_ret
    exact ⟨rfl, H1.out⟩
end Go.Proofs.YtbaopcpmmdmomaaGreatDoor
