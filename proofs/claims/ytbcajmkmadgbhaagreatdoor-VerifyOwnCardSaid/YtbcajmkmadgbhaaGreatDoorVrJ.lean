/- Verify: word, notWord, notText, slices.ContainsFunc over texts. Conditions: the two tables of unicode/utf8 and errors.errorType hold what the program's text lays in them. -/
import Derived.Test.YtbcajmkmadgbhaaGreatDoorVrI
import Derived.Test.YtbcajmkmadgbhaaGreatDoorKeyE
set_option linter.unusedSimpArgs false
set_option linter.unusedVariables false
namespace Go.Proofs.YtbcajmkmadgbhaaGreatDoor
open Go.RowKit
theorem name_yes (l : List UInt8) (w : World) (hl : l.length ≤ 9223372036854775807) (hG : GlobK w) (h : rightB l 64 = true) : Calls Tryz.prog 95 #[strV l] w fun e w' => e = .returned .nilIface ∧ Below w.heap.size w w' := by
  have := name_any l w hl hG
  unfold nameC at this
  rw [if_pos h] at this
  exact this
theorem name_no (l : List UInt8) (w : World) (hl : l.length ≤ 9223372036854775807) (hG : GlobK w) (h : rightB l 64 = false) : Calls Tryz.prog 95 #[strV l] w fun e w' => e = .returned (errV 50) ∧ Below w.heap.size w w' := by
  have := name_any l w hl hG
  unfold nameC at this
  rw [if_neg (by rw [h]; simp)] at this
  exact this
theorem text_yes (l : List UInt8) (w : World) (hl : l.length ≤ 9223372036854775807) (hG : GlobK w) (h : rightB l 256 = true) : Calls Tryz.prog 109 #[strV l] w fun e w' => e = .returned .nilIface ∧ Below w.heap.size w w' := by
  have := text_any l w hl hG
  unfold textC at this
  rw [if_pos h] at this
  exact this
theorem text_no (l : List UInt8) (w : World) (hl : l.length ≤ 9223372036854775807) (hG : GlobK w) (h : rightB l 256 = false) : Calls Tryz.prog 109 #[strV l] w fun e w' => e = .returned (errV 51) ∧ Below w.heap.size w w' := by
  have := text_any l w hl hG
  unfold textC at this
  rw [if_neg (by rw [h]; simp)] at this
  exact this
set_option maxHeartbeats 2000000 in
theorem vword_any (l : List UInt8) (w : World) (hl : l.length ≤ 9223372036854775807) (hG : GlobK w) :
    Calls Tryz.prog 99 #[strV l] w fun e w' => e = .returned (.bool (wordB l)) ∧ Below w.heap.size w w' := by
  unfold wordB
  obtain ⟨T, hT⟩ : ∃ T, (l != timeL) = T := ⟨_, rfl⟩
  rw [hT]
  have hT2 : (l != [116, 105, 109, 101]) = T := hT
  have hT3 : (!(l == [116, 105, 109, 101])) = T := hT
  cases hR : rightB l 64 with
  | false =>
    have kr := name_no l w hl hG hR
    clear hl hG hT hR
    go_enter Tryz.func99, Tryz.ntmps99
    go_wp2_with fail
    refine kr.mono ?_
    rintro e w1 ⟨rfl, h1⟩
    have H1 : Bx (Below w.heap.size w w1) := ⟨h1⟩
    clear h1 kr
    go_wp2
    go_ret
    exact ⟨rfl, H1.out⟩
  | true =>
    have kr := name_yes l w hl hG hR
    clear hl hG hT hR
    go_enter Tryz.func99, Tryz.ntmps99
    go_wp2_with fail
    refine kr.mono ?_
    rintro e w1 ⟨rfl, h1⟩
    have H1 : Bx (Below w.heap.size w w1) := ⟨h1⟩
    clear h1 kr
    go_wp2
    go_ret
    exact ⟨rfl, H1.out⟩
theorem notword_any (l : List UInt8) (w : World) (hl : l.length ≤ 9223372036854775807) (hG : GlobK w) :
    Calls Tryz.prog 97 #[strV l] w fun e w' => e = .returned (.bool (!wordB l)) ∧ Below w.heap.size w w' := by
  have kr := vword_any l w hl hG
  generalize wordB l = X at *
  clear hl hG
  cases X
  all_goals
    go_enter Tryz.func97, Tryz.ntmps97
    go_wp2_with fail
    refine kr.mono ?_
    rintro e w1 ⟨rfl, h1⟩
    have H1 : Bx (Below w.heap.size w w1) := ⟨h1⟩
    clear h1 kr
    go_wp2
    go_ret
    exact ⟨rfl, H1.out⟩
set_option maxHeartbeats 2000000 in
theorem nottext_any (l : List UInt8) (w : World) (hl : l.length ≤ 9223372036854775807) (hG : GlobK w) :
    Calls Tryz.prog 98 #[strV l] w fun e w' => e = .returned (.bool (!blankB l)) ∧ Below w.heap.size w w' := by
  unfold blankB
  by_cases hne : l = []
  · subst hne
    go_enter Tryz.func98, Tryz.ntmps98
    go_wp2
    go_ret
    exact ⟨rfl, Below.refl _ _⟩
  · have hne2 : l.isEmpty = false := by simpa using hne
    have hne3 : (l == []) = false := by simpa using hne
    rw [hne2]
    cases hR : rightB l 256 with
    | false =>
      have kr := text_no l w hl hG hR
      clear hl hG hR hne
      go_enter Tryz.func98, Tryz.ntmps98
      go_wp2_with fail
      refine kr.mono ?_
      rintro e w1 ⟨rfl, h1⟩
      have H1 : Bx (Below w.heap.size w w1) := ⟨h1⟩
      clear h1 kr
      go_wp2
      go_ret
      exact ⟨rfl, H1.out⟩
    | true =>
      have kr := text_yes l w hl hG hR
      clear hl hG hR hne
      go_enter Tryz.func98, Tryz.ntmps98
      go_wp2_with fail
      refine kr.mono ?_
      rintro e w1 ⟨rfl, h1⟩
      have H1 : Bx (Below w.heap.size w w1) := ⟨h1⟩
      clear h1 kr
      go_wp2
      go_ret
      exact ⟨rfl, H1.out⟩
/-- what IndexFunc tells -/
def idxP (p : List UInt8 → Bool) : List (List UInt8) → Nat → Int
  | [], _ => -1
  | x :: r, k => if p x then k else idxP p r (k + 1)
theorem idxP_any (p : List UInt8 → Bool) : ∀ (l : List (List UInt8)) (k : Nat), decide (0 ≤ idxP p l k) = l.any p
  | [], k => rfl
  | x :: r, k => by
    unfold idxP
    rw [List.any_cons]
    cases h : p x with
    | true => simp
    | false => simp only [Bool.false_eq_true, if_false, Bool.false_or]; exact idxP_any p r (k + 1)
set_option maxHeartbeats 2000000 in
theorem indexf_any (g : Nat) (p : List UInt8 → Bool) (eg : ∀ args w, (callFunc g args).run Tryz.prog w = .ok (.enter g args) w) (A : Option Addr) (l : List (List UInt8)) (cap : Nat) (w : World) (hr : TxtL w A l)
    (hg : ∀ x ∈ l, ∀ W, Below w.heap.size w W → Calls Tryz.prog g #[strV x] W fun e w' => e = .returned (.bool (p x)) ∧ Below W.heap.size W w') :
    Calls Tryz.prog 108 #[.slice A l.length cap, .func (.func g) #[] #[]] w fun e w' => e = .returned (.int .i64 (idxP p l 0)) ∧ Below w.heap.size w w' := by
  have HR : Bx _ := ⟨And.intro hr hg⟩
  obtain ⟨R, hR⟩ : ∃ R, idxP p l 0 = R := ⟨_, rfl⟩
  rw [hR]
  have HI0 : Bx (idxP p l 0 = R) := ⟨hR⟩
  have HN : Bx (l.length ≤ 9223372036854775807) := ⟨hr.n⟩
  clear hR hg hr
  go_enter Tryz.func108, Tryz.ntmps108
  go_wp2_with fail
  go_loopw [8] (fun i wr => ∃ k : Nat, k ≤ l.length ∧ i = .int .i64 (k : Int) ∧ Bx (Below w.heap.size w wr ∧ idxP p (l.drop k) k = R)) (fun i _ => l.length - (intOf i).toNat)
  case atStart => exact ⟨0, by omega, rfl, ⟨Below.refl _ _, HI0.out⟩⟩
  case round =>
    obtain ⟨k, hk, rfl, HI⟩ := hrel
    have hn := HN.out
    by_cases hlt : k < l.length
    · obtain ⟨b, off, rfl, hrow⟩ := row_one (HR.out.1.below HI.out.1) (by omega)
      have hx : l[k]? = some l[k] := List.getElem?_eq_getElem hlt
      have r0 := hrow k _ hx
      have kc := HR.out.2 _ (List.getElem_mem hlt) wr HI.out.1
      have HD : Bx (l.drop k = l[k] :: l.drop (k + 1)) := ⟨List.drop_eq_getElem_cons hlt⟩
      generalize l[k] = x at *
      clear hrow hx
      cases hp : p x with
      | false =>
        rw [hp] at kc
        have HE : Bx (idxP p (l.drop (k + 1)) (k + 1) = R) := ⟨by
          have h := HI.out.2
          rw [HD.out] at h
          unfold idxP at h
          rwa [hp] at h⟩
        clear hp
        go_wp2_with (go_at_fn g; refine kc.mono ?_; rintro e w1 ⟨rfl, hb⟩; have HF : Bx (Below w.heap.size w w1 ∧ idxP p (l.drop (k + 1)) (k + 1) = R) := ⟨HI.out.1.trans (hb.mono HI.out.1.size), HE.out⟩; clear hb)
        exact ⟨⟨k + 1, by omega, by rw [Int.natCast_succ], HF⟩, by simp only [intOf]; omega⟩
      | true =>
        rw [hp] at kc
        have HE : Bx (R = (k : Int)) := ⟨by
          have h := HI.out.2
          rw [HD.out] at h
          unfold idxP at h
          rw [hp] at h
          exact h.symm⟩
        clear hp
        go_wp2_with (go_at_fn g; refine kc.mono ?_; rintro e w1 ⟨rfl, hb⟩; have HF : Bx (Below w.heap.size w w1) := ⟨HI.out.1.trans (hb.mono HI.out.1.size)⟩; clear hb)
        go_ret
        exact ⟨by rw [HE.out]; rfl, HF.out⟩
    · obtain rfl : k = l.length := by omega
      have HE : Bx (R = -1) := ⟨by
        have h := HI.out.2
        rw [List.drop_length] at h
        exact h.symm⟩
      go_wp2_with fail
      go_ret
      exact ⟨by rw [HE.out]; rfl, HI.out.1⟩
theorem contains_any (g : Nat) (p : List UInt8 → Bool) (eg : ∀ args w, (callFunc g args).run Tryz.prog w = .ok (.enter g args) w) (A : Option Addr) (l : List (List UInt8)) (cap : Nat) (w : World) (hr : TxtL w A l)
    (hg : ∀ x ∈ l, ∀ W, Below w.heap.size w W → Calls Tryz.prog g #[strV x] W fun e w' => e = .returned (.bool (p x)) ∧ Below W.heap.size W w') :
    Calls Tryz.prog 96 #[.slice A l.length cap, .func (.func g) #[] #[]] w fun e w' => e = .returned (.bool (l.any p)) ∧ Below w.heap.size w w' := by
  have ki := indexf_any g p eg A l cap w hr hg
  obtain ⟨X, hX⟩ : ∃ X, decide (0 ≤ idxP p l 0) = X := ⟨_, rfl⟩
  rw [← idxP_any p l 0, hX]
  generalize idxP p l 0 = I at *
  clear hr hg
  go_enter Tryz.func96, Tryz.ntmps96
  go_wp2_with fail
  refine ki.mono ?_
  rintro e w1 ⟨rfl, hb⟩
  have HB : Bx (Below w.heap.size w w1) := ⟨hb⟩
  clear hb
  go_wp2
  go_ret
  exact ⟨rfl, HB.out⟩
theorem words_c (A : Option Addr) (l : List (List UInt8)) (cap : Nat) (w : World) (hr : TxtL w A l) (hl : TxtsB l) (hG : GlobK w) :
    Calls Tryz.prog 96 #[.slice A l.length cap, .func (.func 97) #[] #[]] w fun e w' => e = .returned (.bool (!l.all wordB)) ∧ Below w.heap.size w w' := by
  have := contains_any 97 (fun x => !wordB x) (enters_of Tryz.func97 (by kernel_rfl) rfl) A l cap w hr (fun x hx W hb => notword_any x W (hl x hx) (hG.below hb))
  rwa [show (l.any fun x => !wordB x) = !l.all wordB by rw [← List.not_all_eq_any_not]] at this
theorem texts_c (A : Option Addr) (l : List (List UInt8)) (cap : Nat) (w : World) (hr : TxtL w A l) (hl : TxtsB l) (hG : GlobK w) :
    Calls Tryz.prog 96 #[.slice A l.length cap, .func (.func 98) #[] #[]] w fun e w' => e = .returned (.bool (!l.all blankB)) ∧ Below w.heap.size w w' := by
  have := contains_any 98 (fun x => !blankB x) (enters_of Tryz.func98 (by kernel_rfl) rfl) A l cap w hr (fun x hx W hb => nottext_any x W (hl x hx) (hG.below hb))
  rwa [show (l.any fun x => !blankB x) = !l.all blankB by rw [← List.not_all_eq_any_not]] at this
end Go.Proofs.YtbcajmkmadgbhaaGreatDoor
