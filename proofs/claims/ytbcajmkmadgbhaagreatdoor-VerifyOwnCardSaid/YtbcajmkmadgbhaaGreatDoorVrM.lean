/- Verify, the document's answer: one, words, texts, Accs, Head. -/
import Derived.Test.YtbcajmkmadgbhaaGreatDoorVrK
import Derived.Test.YtbcajmkmadgbhaaGreatDoorKeyF
import Derived.Deep.Cut
set_option linter.unusedSimpArgs false
set_option linter.unusedVariables false
namespace Go.Proofs.YtbcajmkmadgbhaaGreatDoor
open Go.RowKit
def oneB (c : Nat) : Bool := decide (1 ≤ c) && decide (c ≤ 7) && c != 3
set_option maxHeartbeats 2000000 in
theorem one_any (c : Nat) (w : World) : Calls Tryz.prog 92 #[.int .u8 (c : Int)] w fun e w' => e = .returned (.bool (oneB c)) ∧ w = w' := by
  have hcs : c = 1 ∨ c = 2 ∨ c = 4 ∨ c = 5 ∨ c = 6 ∨ c = 7 ∨ (c ≠ 1 ∧ c ≠ 2 ∧ c ≠ 4 ∧ c ≠ 5 ∧ c ≠ 6 ∧ c ≠ 7) := by omega
  rcases hcs with rfl | rfl | rfl | rfl | rfl | rfl | ⟨h1, h2, h4, h5, h6, h7⟩
  · go_enter Tryz.func92, Tryz.ntmps92
    go_wp2
    go_ret
    exact ⟨rfl, rfl⟩
  · go_enter Tryz.func92, Tryz.ntmps92
    go_wp2
    go_ret
    exact ⟨rfl, rfl⟩
  · go_enter Tryz.func92, Tryz.ntmps92
    go_wp2
    go_ret
    exact ⟨rfl, rfl⟩
  · go_enter Tryz.func92, Tryz.ntmps92
    go_wp2
    go_ret
    exact ⟨rfl, rfl⟩
  · go_enter Tryz.func92, Tryz.ntmps92
    go_wp2
    go_ret
    exact ⟨rfl, rfl⟩
  · go_enter Tryz.func92, Tryz.ntmps92
    go_wp2
    go_ret
    exact ⟨rfl, rfl⟩
  · have e1 : (((c : Int) == 1) : Bool) = false := by simp; omega
    have e2 : (((c : Int) == 2) : Bool) = false := by simp; omega
    have e4 : (((c : Int) == 4) : Bool) = false := by simp; omega
    have e5 : (((c : Int) == 5) : Bool) = false := by simp; omega
    have e6 : (((c : Int) == 6) : Bool) = false := by simp; omega
    have e7 : (((c : Int) == 7) : Bool) = false := by simp; omega
    have ho : oneB c = false := by unfold oneB; simp; omega
    rw [ho]
    clear h1 h2 h4 h5 h6 h7 ho
    go_enter Tryz.func92, Tryz.ntmps92
    go_wp2
    go_ret
    exact ⟨rfl, rfl⟩
set_option maxHeartbeats 2000000 in
theorem words_any (A : Option Addr) (l : List (List UInt8)) (cap : Nat) (w : World) (hr : TxtL w A l) (hl : TxtsB l) :
    Calls Tryz.prog 68 #[.slice A l.length cap] w fun e w' => e = .returned (.bool (l.all wordB)) ∧ w = w' := by
  have HR : Bx _ := ⟨And.intro hr hl⟩
  obtain ⟨R, hR⟩ : ∃ R, l.all wordB = R := ⟨_, rfl⟩
  rw [hR]
  have HI0 : Bx (l.all wordB = R) := ⟨hR⟩
  have HN : Bx (l.length ≤ 9223372036854775807) := ⟨hr.n⟩
  clear hR hr hl
  go_enter Tryz.func68, Tryz.ntmps68
  go_wp2_with fail
  go_loopw [3] (fun i wr => ∃ k : Nat, k ≤ l.length ∧ i = .int .i64 (k : Int) ∧ wr = w ∧ Bx ((l.drop k).all wordB = R)) (fun i _ => l.length - (intOf i).toNat)
  case atStart => exact ⟨0, by omega, rfl, rfl, ⟨by rw [List.drop_zero]; exact HI0.out⟩⟩
  case round =>
    obtain ⟨k, hk, rfl, rfl, HI⟩ := hrel
    have hn := HN.out
    by_cases hlt : k < l.length
    · obtain ⟨b, off, rfl, hrow⟩ := row_one HR.out.1 (by omega)
      have hx : l[k]? = some l[k] := List.getElem?_eq_getElem hlt
      have r0 := hrow k _ hx
      have kc := fun w => isWord_any _ w (HR.out.2 _ (List.getElem_mem hlt))
      have HD : Bx (l.drop k = l[k] :: l.drop (k + 1)) := ⟨List.drop_eq_getElem_cons hlt⟩
      generalize l[k] = x at *
      clear hrow hx
      cases hp : wordB x with
      | true =>
        rw [hp] at kc
        have HE : Bx ((l.drop (k + 1)).all wordB = R) := ⟨by rw [← HI.out, HD.out, List.all_cons, hp]; rfl⟩
        clear hp
        go_wp2_with fail
        refine (kc _).mono ?_
        rintro e w1 ⟨rfl, rfl⟩
        go_wp2_with fail
        exact ⟨⟨k + 1, by omega, by rw [Int.natCast_succ], trivial, HE⟩, by simp only [intOf]; omega⟩
      | false =>
        rw [hp] at kc
        have HE : Bx (R = false) := ⟨by rw [← HI.out, HD.out, List.all_cons, hp]; rfl⟩
        clear hp
        go_wp2_with fail
        refine (kc _).mono ?_
        rintro e w1 ⟨rfl, rfl⟩
        go_wp2
        go_ret
        exact ⟨by rw [HE.out]; rfl, rfl⟩
    · obtain rfl : k = l.length := by omega
      have HE : Bx (R = true) := ⟨by have h := HI.out; rw [List.drop_length] at h; exact h.symm⟩
      go_wp2_with fail
      go_ret
      exact ⟨by rw [HE.out]; rfl, rfl⟩
set_option maxHeartbeats 2000000 in
theorem texts_any (A : Option Addr) (l : List (List UInt8)) (cap : Nat) (w : World) (hr : TxtL w A l) (hl : TxtsB l) :
    Calls Tryz.prog 69 #[.slice A l.length cap] w fun e w' => e = .returned (.bool (l.all blankB)) ∧ w = w' := by
  have HR : Bx _ := ⟨And.intro hr hl⟩
  obtain ⟨R, hR⟩ : ∃ R, l.all blankB = R := ⟨_, rfl⟩
  rw [hR]
  have HI0 : Bx (l.all blankB = R) := ⟨hR⟩
  have HN : Bx (l.length ≤ 9223372036854775807) := ⟨hr.n⟩
  clear hR hr hl
  go_enter Tryz.func69, Tryz.ntmps69
  go_wp2_with fail
  go_loopw [3] (fun i wr => ∃ k : Nat, k ≤ l.length ∧ i = .int .i64 (k : Int) ∧ wr = w ∧ Bx ((l.drop k).all blankB = R)) (fun i _ => l.length - (intOf i).toNat)
  case atStart => exact ⟨0, by omega, rfl, rfl, ⟨by rw [List.drop_zero]; exact HI0.out⟩⟩
  case round =>
    obtain ⟨k, hk, rfl, rfl, HI⟩ := hrel
    have hn := HN.out
    by_cases hlt : k < l.length
    · obtain ⟨b, off, rfl, hrow⟩ := row_one HR.out.1 (by omega)
      have hx : l[k]? = some l[k] := List.getElem?_eq_getElem hlt
      have r0 := hrow k _ hx
      have kc := fun w => isText_any _ w (HR.out.2 _ (List.getElem_mem hlt))
      have HD : Bx (l.drop k = l[k] :: l.drop (k + 1)) := ⟨List.drop_eq_getElem_cons hlt⟩
      generalize l[k] = x at *
      clear hrow hx
      by_cases hne : x = []
      · have HE : Bx ((l.drop (k + 1)).all blankB = R) := ⟨by rw [← HI.out, HD.out, List.all_cons, hne]; rfl⟩
        have hx2 : x.isEmpty = true := by rw [hne]; rfl
        have hx3 : (x == []) = true := by rw [hne]; rfl
        have hx4 : (x != []) = false := by rw [hne]; rfl
        clear hne
        go_wp2_with fail
        exact ⟨⟨k + 1, by omega, by rw [Int.natCast_succ], trivial, HE⟩, by simp only [intOf]; omega⟩
      · have hx2 : x.isEmpty = false := by simpa using hne
        have hx3 : (x == []) = false := by simpa using hne
        have hb : blankB x = rightB x 256 := by unfold blankB; rw [hx2]; rfl
        cases hp : rightB x 256 with
        | true =>
          rw [hp] at kc
          have HE : Bx ((l.drop (k + 1)).all blankB = R) := ⟨by rw [← HI.out, HD.out, List.all_cons, hb, hp]; rfl⟩
          clear hp hb hne
          go_wp2_with fail
          refine (kc _).mono ?_
          rintro e w1 ⟨rfl, rfl⟩
          go_wp2_with fail
          exact ⟨⟨k + 1, by omega, by rw [Int.natCast_succ], trivial, HE⟩, by simp only [intOf]; omega⟩
        | false =>
          rw [hp] at kc
          have HE : Bx (R = false) := ⟨by rw [← HI.out, HD.out, List.all_cons, hb, hp]; rfl⟩
          clear hp hb hne
          go_wp2_with fail
          refine (kc _).mono ?_
          rintro e w1 ⟨rfl, rfl⟩
          go_wp2
          go_ret
          exact ⟨by rw [HE.out]; rfl, rfl⟩
    · obtain rfl : k = l.length := by omega
      have HE : Bx (R = true) := ⟨by have h := HI.out; rw [List.drop_length] at h; exact h.symm⟩
      go_wp2_with fail
      go_ret
      exact ⟨by rw [HE.out]; rfl, rfl⟩
theorem accB_eq (c : Nat) (f : List UInt8) : accB (c, f) = (oneB c && wordB f) := rfl
set_option maxHeartbeats 2000000 in
theorem raccs_any (A : Option Addr) (l : List (Nat × List UInt8)) (cap : Nat) (w : World) (hr : AccL w A l) (hl : ∀ a ∈ l, a.1 < 256 ∧ a.2.length ≤ 9223372036854775807) :
    Calls Tryz.prog 67 #[.slice A l.length cap] w fun e w' => e = .returned (.bool (l.all accB)) ∧ w = w' := by
  have HR : Bx _ := ⟨And.intro hr hl⟩
  obtain ⟨R, hR⟩ : ∃ R, l.all accB = R := ⟨_, rfl⟩
  rw [hR]
  have HI0 : Bx (l.all accB = R) := ⟨hR⟩
  have HN : Bx (l.length ≤ 9223372036854775807) := ⟨hr.n⟩
  clear hR hr hl
  go_enter Tryz.func67, Tryz.ntmps67
  go_wp2_with fail
  go_loopw [3] (fun i wr => ∃ k : Nat, k ≤ l.length ∧ i = .int .i64 (k : Int) ∧ wr = w ∧ Bx ((l.drop k).all accB = R)) (fun i _ => l.length - (intOf i).toNat)
  case atStart => exact ⟨0, by omega, rfl, rfl, ⟨by rw [List.drop_zero]; exact HI0.out⟩⟩
  case round =>
    obtain ⟨k, hk, rfl, rfl, HI⟩ := hrel
    have hn := HN.out
    by_cases hlt : k < l.length
    · obtain ⟨b, off, rfl, hrow⟩ := HR.out.1.row (by omega)
      have hx : l[k]? = some l[k] := List.getElem?_eq_getElem hlt
      have r0 : wr.cell? ⟨b, off + k * 2, none⟩ = some (.int .u8 (l[k].1 : Int)) := hrow k _ hx 0 _ rfl
      have r1 : wr.cell? ⟨b, off + k * 2 + 1, none⟩ = some (strV l[k].2) := hrow k _ hx 1 _ rfl
      have kc := fun w => isWord_any _ w (HR.out.2 _ (List.getElem_mem hlt)).2
      have HD : Bx (l.drop k = l[k] :: l.drop (k + 1)) := ⟨List.drop_eq_getElem_cons hlt⟩
      generalize l[k] = x at *
      obtain ⟨c, f⟩ := x
      clear hrow hx
      have ko := fun w => one_any c w
      obtain ⟨X, hX⟩ : ∃ X, oneB c = X := ⟨_, rfl⟩
      obtain ⟨Y, hY⟩ : ∃ Y, wordB f = Y := ⟨_, rfl⟩
      have HXY : Bx (accB (c, f) = (X && Y)) := ⟨by rw [accB_eq, hX, hY]⟩
      rw [hX] at ko
      rw [show wordB ((c, f) : Nat × List UInt8).2 = Y from hY] at kc
      clear hX hY
      cases X
      · have HE : Bx (R = false) := ⟨by rw [← HI.out, HD.out, List.all_cons, HXY.out]; rfl⟩
        go_wp2_with fail
        refine (ko _).mono ?_
        rintro e w1 ⟨rfl, rfl⟩
        go_wp2
        go_ret
        exact ⟨by rw [HE.out]; rfl, rfl⟩
      · cases Y
        · have HE : Bx (R = false) := ⟨by rw [← HI.out, HD.out, List.all_cons, HXY.out]; rfl⟩
          go_wp2_with fail
          refine (ko _).mono ?_
          rintro e w1 ⟨rfl, rfl⟩
          go_wp2_with fail
          refine (kc _).mono ?_
          rintro e w1 ⟨rfl, rfl⟩
          go_wp2
          go_ret
          exact ⟨by rw [HE.out]; rfl, rfl⟩
        · have HE : Bx ((l.drop (k + 1)).all accB = R) := ⟨by rw [← HI.out, HD.out, List.all_cons, HXY.out]; rfl⟩
          go_wp2_with fail
          refine (ko _).mono ?_
          rintro e w1 ⟨rfl, rfl⟩
          go_wp2_with fail
          refine (kc _).mono ?_
          rintro e w1 ⟨rfl, rfl⟩
          go_wp2_with fail
          exact ⟨⟨k + 1, by omega, by rw [Int.natCast_succ], trivial, HE⟩, by simp only [intOf]; omega⟩
    · obtain rfl : k = l.length := by omega
      have HE : Bx (R = true) := ⟨by have h := HI.out; rw [List.drop_length] at h; exact h.symm⟩
      go_wp2_with fail
      go_ret
      exact ⟨by rw [HE.out]; rfl, rfl⟩
/-- what Head of the document tells -/
def head17 (fr into : List UInt8) (ev off : Int) (gr : List (List UInt8)) : Bool :=
  rightB fr 64 && (into.isEmpty || rightB into 64) && decide (1 ≤ ev) && decide (ev ≤ 288230376151711744) && decide (0 ≤ off) && decide (off < ev) && decide (gr.length ≤ 8) && gr.all wordB
set_option maxHeartbeats 4000000 in
set_option maxRecDepth 100000 in
theorem head17_any (fr into : List UInt8) (ev off : Int) (A : Option Addr) (l : List (List UInt8)) (cap : Nat) (w : World) (hr : TxtL w A l) (hl : TxtsB l) (h1 : fr.length ≤ 9223372036854775807) (h2 : into.length ≤ 9223372036854775807) :
    Calls Tryz.prog 66 #[strV fr, strV into, .int .i64 ev, .int .i64 off, .slice A l.length cap] w fun e w' => e = .returned (.bool (head17 fr into ev off l)) ∧ w = w' := by
  have HR : Bx _ := ⟨And.intro hr hl⟩
  have HN : Bx (l.length ≤ 9223372036854775807) := ⟨hr.n⟩
  have k1 := fun w => isName_any fr w h1
  have k2 := fun w => isName_any into w h2
  obtain ⟨R, hR⟩ : ∃ R, head17 fr into ev off l = R := ⟨_, rfl⟩
  rw [hR]
  obtain ⟨a1, ha1⟩ : ∃ a, rightB fr 64 = a := ⟨_, rfl⟩
  obtain ⟨a2, ha2⟩ : ∃ a, into.isEmpty = a := ⟨_, rfl⟩
  obtain ⟨a3, ha3⟩ : ∃ a, rightB into 64 = a := ⟨_, rfl⟩
  obtain ⟨a4, ha4⟩ : ∃ a, decide (1 ≤ ev) = a := ⟨_, rfl⟩
  obtain ⟨a5, ha5⟩ : ∃ a, decide (ev ≤ 288230376151711744) = a := ⟨_, rfl⟩
  obtain ⟨a6, ha6⟩ : ∃ a, decide (0 ≤ off) = a := ⟨_, rfl⟩
  obtain ⟨a7, ha7⟩ : ∃ a, decide (off < ev) = a := ⟨_, rfl⟩
  obtain ⟨a8, ha8⟩ : ∃ a, decide (l.length ≤ 8) = a := ⟨_, rfl⟩
  have ha8' : decide ((l.length : Int) ≤ 8) = a8 := by rw [← ha8, decide_eq_decide]; omega
  have ha2' : (into == []) = a2 := by rw [← ha2]; cases into <;> rfl
  have HRR : Bx ((a1 && (a2 || a3) && a4 && a5 && a6 && a7 && a8 && l.all wordB) = R) := ⟨by rw [← hR]; unfold head17; rw [ha1, ha2, ha3, ha4, ha5, ha6, ha7, ha8]⟩
  rw [ha1] at k1
  rw [ha3] at k2
  clear hR ha1 ha3 ha8 hr hl h1 h2
  go_enter Tryz.func66, Tryz.ntmps66
  go_upto_region 1 with (fail)
  go_cut [11] from 13 (fun g wx => ∃ G : Bool, g = .bool G ∧ wx = w ∧ Bx ((G && l.all wordB) = R))
  case first =>
    go_wp2_with fail
    refine (k1 _).mono ?_
    rintro e w1 ⟨rfl, rfl⟩
    cases a1
    · go_wp2_with fail
      go_meet
      exact ⟨_, rfl, rfl, ⟨HRR.out⟩⟩
    · cases a2
      · go_wp2_with fail
        refine (k2 _).mono ?_
        rintro e w1 ⟨rfl, rfl⟩
        cases a3
        · go_wp2_with fail
          go_meet
          exact ⟨_, rfl, rfl, ⟨HRR.out⟩⟩
        · cases a4
          · go_wp2_with fail
            go_meet
            exact ⟨_, rfl, rfl, ⟨HRR.out⟩⟩
          · cases a5
            · go_wp2_with fail
              go_meet
              exact ⟨_, rfl, rfl, ⟨HRR.out⟩⟩
            · cases a6
              · go_wp2_with fail
                go_meet
                exact ⟨_, rfl, rfl, ⟨HRR.out⟩⟩
              · cases a7
                · go_wp2_with fail
                  go_meet
                  exact ⟨_, rfl, rfl, ⟨HRR.out⟩⟩
                · cases a8
                  · go_wp2_with fail
                    go_meet
                    exact ⟨_, rfl, rfl, ⟨HRR.out⟩⟩
                  · go_wp2_with fail
                    go_meet
                    exact ⟨_, rfl, rfl, ⟨HRR.out⟩⟩
      · cases a4
        · go_wp2_with fail
          go_meet
          exact ⟨_, rfl, rfl, ⟨HRR.out⟩⟩
        · cases a5
          · go_wp2_with fail
            go_meet
            exact ⟨_, rfl, rfl, ⟨HRR.out⟩⟩
          · cases a6
            · go_wp2_with fail
              go_meet
              exact ⟨_, rfl, rfl, ⟨HRR.out⟩⟩
            · cases a7
              · go_wp2_with fail
                go_meet
                exact ⟨_, rfl, rfl, ⟨HRR.out⟩⟩
              · cases a8
                · go_wp2_with fail
                  go_meet
                  exact ⟨_, rfl, rfl, ⟨HRR.out⟩⟩
                · go_wp2_with fail
                  go_meet
                  exact ⟨_, rfl, rfl, ⟨HRR.out⟩⟩
  case rest =>
    obtain ⟨G, rfl, rfl, HG⟩ := hcut
    clear HRR k1 k2 ha2 ha2' ha4 ha5 ha6 ha7 ha8'
    go_wp2_with fail
    go_loopw [11, 12] (fun g i wr => ∃ (k : Nat) (G : Bool), k ≤ l.length ∧ i = .int .i64 (k : Int) ∧ g = .bool G ∧ wr = wc ∧ Bx ((G && (l.drop k).all wordB) = R)) (fun _ i _ => l.length - (intOf i).toNat)
    case atStart => exact ⟨0, G, by omega, rfl, rfl, rfl, ⟨by rw [List.drop_zero]; exact HG.out⟩⟩
    case round =>
      obtain ⟨k, G, hk, rfl, rfl, rfl, HI⟩ := hrel
      have hn := HN.out
      by_cases hlt : k < l.length
      · obtain ⟨b, off, rfl, hrow⟩ := row_one HR.out.1 (by omega)
        have hx : l[k]? = some l[k] := List.getElem?_eq_getElem hlt
        have r0 := hrow k _ hx
        have kc := fun w => isWord_any _ w (HR.out.2 _ (List.getElem_mem hlt))
        have HD : Bx (l.drop k = l[k] :: l.drop (k + 1)) := ⟨List.drop_eq_getElem_cons hlt⟩
        generalize l[k] = x at *
        clear hrow hx
        obtain ⟨Y, hY⟩ : ∃ Y, wordB x = Y := ⟨_, rfl⟩
        have HY : Bx _ := ⟨hY⟩
        rw [hY] at kc
        clear hY
        cases G
        · have HE : Bx ((false && (l.drop (k + 1)).all wordB) = R) := ⟨HI.out⟩
          go_wp2_with fail
          exact ⟨⟨k + 1, false, by omega, by rw [Int.natCast_succ], rfl, trivial, HE⟩, by simp only [intOf]; omega⟩
        · have HE : Bx ((Y && (l.drop (k + 1)).all wordB) = R) := ⟨by rw [← HI.out, HD.out, List.all_cons, HY.out]; rfl⟩
          go_wp2_with fail
          refine (kc _).mono ?_
          rintro e w1 ⟨rfl, rfl⟩
          go_wp2_with fail
          exact ⟨⟨k + 1, Y, by omega, by rw [Int.natCast_succ], rfl, trivial, HE⟩, by simp only [intOf]; omega⟩
      · obtain rfl : k = l.length := by omega
        have HE : Bx (R = G) := ⟨by have h := HI.out; rw [List.drop_length] at h; rw [← h]; simp⟩
        go_wp2_with fail
        go_ret
        exact ⟨by rw [HE.out]; rfl, rfl⟩
end Go.Proofs.YtbcajmkmadgbhaaGreatDoor
