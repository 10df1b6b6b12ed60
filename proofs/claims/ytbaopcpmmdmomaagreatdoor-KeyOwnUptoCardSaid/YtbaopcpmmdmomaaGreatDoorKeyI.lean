/- key.Print. Conditions: the two tables of unicode/utf8 and errors.errorType hold what the program's text lays in them. -/
import Derived.Test.YtbaopcpmmdmomaaGreatDoorKeyH
import Derived.Laws.Concat
import Derived.BigQuiet
set_option linter.unusedSimpArgs false
set_option linter.unusedVariables false
namespace Go.Proofs.YtbaopcpmmdmomaaGreatDoor
open Go.RowKit
/-- what is written of a series' name and its first k tags -/
def partP (m : List UInt8) (tk tv : Nat → List UInt8) : Nat → List UInt8
  | 0 => escL m
  | k + 1 => partP m tk tv k ++ ([44] ++ escL (tk k) ++ [61] ++ escL (tv k))
/-- a series' key -/
def keyL (m f : List UInt8) (n : Nat) (tk tv : Nat → List UInt8) : List UInt8 := if seriesC m f n tk tv = 0 then partP m tk tv n ++ [32] ++ escL f else []
theorem right_len {l : List UInt8} {most : Nat} (h : rightB l most = true) : l.length ≤ most := by
  unfold rightB at h
  simp only [Bool.and_eq_true, decide_eq_true_eq] at h
  exact h.1.2
theorem word_len {l : List UInt8} (h : wordB l = true) : l.length ≤ 64 := by
  unfold wordB at h
  simp only [Bool.and_eq_true] at h
  exact right_len h.1
theorem wrongU_no {n : Nat} {tk tv : Nat → List UInt8} : ∀ {k : Nat}, wrongU n tk tv k = false → n ≤ 8 ∧ ∀ i, i < k → (tk i).length ≤ 64 ∧ (tv i).length ≤ 256
  | 0, h => by unfold wrongU at h; rw [decide_eq_false_iff_not] at h; exact ⟨by omega, fun i hi => by omega⟩
  | k + 1, h => by
    unfold wrongU at h
    rw [Bool.or_eq_false_iff] at h
    obtain ⟨a, b⟩ := wrongU_no h.1
    refine ⟨a, fun i hi => ?_⟩
    rcases Nat.lt_or_ge i k with h1 | h1
    · exact b i h1
    · obtain rfl : i = k := by omega
      have h2 := h.2
      unfold tagBad at h2
      simp only [Bool.or_eq_false_iff, Bool.not_eq_false'] at h2
      exact ⟨word_len h2.1.1, right_len h2.1.2⟩
theorem series_ok {m f : List UInt8} {n : Nat} {tk tv : Nat → List UInt8} (h : seriesC m f n tk tv = 0) : m.length ≤ 64 ∧ f.length ≤ 64 ∧ n ≤ 8 ∧ ∀ i, i < n → (tk i).length ≤ 64 ∧ (tv i).length ≤ 256 := by
  unfold seriesC at h
  by_cases h1 : nameC m = 0
  · rw [if_pos h1] at h
    by_cases h2 : tagsC n tk tv = 0
    · rw [if_pos h2] at h
      have g1 : rightB m 64 = true := by
        unfold nameC at h1
        cases hh : rightB m 64
        · rw [hh] at h1; simp at h1
        · rfl
      have g2 : wrongU n tk tv n = false := by
        unfold tagsC at h2
        cases hh : wrongU n tk tv n
        · rfl
        · rw [hh] at h2; simp at h2
      have g3 : wordB f = true := by
        cases hh : wordB f
        · rw [hh] at h; simp at h
        · rfl
      obtain ⟨a, b⟩ := wrongU_no g2
      exact ⟨right_len g1, word_len g3, a, b⟩
    · rw [if_neg h2] at h; exact absurd h h2
  · rw [if_neg h1] at h; exact absurd h h1
theorem partP_len {m : List UInt8} {n : Nat} {tk tv : Nat → List UInt8} (hm : m.length ≤ 64) (h : ∀ i, i < n → (tk i).length ≤ 64 ∧ (tv i).length ≤ 256) : ∀ k, k ≤ n → (partP m tk tv k).length ≤ 128 + k * 642
  | 0, _ => by have := escL_len m; unfold partP; omega
  | k + 1, hk => by
    have ih := partP_len hm h k (by omega)
    obtain ⟨a, b⟩ := h k (by omega)
    have := escL_len (tk k)
    have := escL_len (tv k)
    unfold partP
    simp only [List.length_append, List.length_singleton]
    omega
set_option maxHeartbeats 4000000 in
set_option maxRecDepth 100000 in
theorem kprint_any (m f : List UInt8) (A : Option Addr) (n cap : Nat) (tk tv : Nat → List UInt8) (w : World) (hr : SerIn w m f A n tk tv) (hG : GlobK w) :
    Calls Tryz.prog 11 #[.agg #[strV m, .slice A n cap, strV f]] w fun e w' => e = .returned (strV (keyL m f n tk tv)) ∧ Below w.heap.size w w' := by
  have HR : Bx _ := ⟨hr⟩
  have HGK : Bx (GlobK w) := ⟨hG⟩
  have HI : Bx _ := ⟨SB.alloc w m f A n cap 24⟩
  have hr1 := hr.below (below1 w (.cells #[strV m, .slice A n cap, strV f] 24))
  have hG1 := hG.below (below1 w (.cells #[strV m, .slice A n cap, strV f] 24))
  have k1 := series_any m f A n cap tk tv _ hr1 hG1
  clear hr1 hG1 hr hG
  by_cases hc : seriesC m f n tk tv = 0
  · obtain ⟨hm, hf, hn8, hts⟩ := series_ok hc
    have HK : Bx (keyL m f n tk tv = partP m tk tv n ++ [32] ++ escL f) := ⟨by unfold keyL; rw [if_pos hc]⟩
    rw [hc] at k1
    clear hc
    have HTS : Bx (∀ i, i < n → (tk i).length ≤ 64 ∧ (tv i).length ≤ 256) := ⟨hts⟩
    have HPL : Bx (∀ k, k ≤ n → (partP m tk tv k).length ≤ 128 + k * 642) := ⟨partP_len hm hts⟩
    clear hts
    go_enter Tryz.func11, Tryz.ntmps11
    go_wp2_with fail
    generalize (w.alloc (.cells #[strV m, .slice A n cap, strV f] 24)) = w0 at *
    refine k1.mono ?_
    rintro e w1 ⟨rfl, h1⟩
    clear k1
    generalize hS : w.heap.size = S at *
    have HS : Bx (w.heap.size = S) := ⟨hS⟩
    clear hS
    have HJ : Bx _ := ⟨HI.out.step h1⟩
    clear h1 HI
    have c0 := HJ.out.c0
    have k2 := fun w => escape_any m w (by omega)
    simp only [eV_zero]
    go_wp2_with fail
    refine (k2 _).mono ?_
    rintro e w2 ⟨rfl, h2⟩
    have HL : Bx _ := ⟨HJ.out.step h2⟩
    clear h2 HJ c0 k2
    have c1 := HL.out.c1
    go_wp2_with fail
    clear c1
    go_loopw [3, 15] (fun o i wr => ∃ k : Nat, k ≤ n ∧ i = .int .i64 k ∧ o = strV (partP m tk tv k) ∧ Bx (SB w wr S m f A n cap)) (fun _ i _ => n - (intOf i).toNat)
    case atStart => exact ⟨0, by omega, rfl, rfl, HL⟩
    case round =>
      obtain ⟨k, hk, rfl, rfl, HM⟩ := hrel
      clear HL
      by_cases hlt : k < n
      · have hbw : Below w.heap.size w wr := by rw [HS.out]; exact HM.out.below
        obtain ⟨b, off, rfl, hrow⟩ := (HR.out.row.below hbw).row (by omega)
        obtain ⟨r0, r1⟩ := hrow k hlt
        clear hrow hbw
        go_wp2_with fail
        have HN : Bx (SB w (wr.alloc (.cells #[strV (tk k), strV (tv k)] 70)) S m f (some ⟨b, off, none⟩) n cap) := ⟨HM.out.step (below1 _ _)⟩
        have c0 : (wr.alloc (.cells #[strV (tk k), strV (tv k)] 70)).cell? ⟨wr.heap.size, 0, none⟩ = some (strV (tk k)) := by rw [World.cell?_alloc_at _ _ _ _ rfl]; rfl
        have c1 : (wr.alloc (.cells #[strV (tk k), strV (tv k)] 70)).cell? ⟨wr.heap.size, 1, none⟩ = some (strV (tv k)) := by rw [World.cell?_alloc_at _ _ _ _ rfl]; rfl
        have HQ : Bx _ := ⟨And.intro (cell_regrown c0) (cell_regrown c1)⟩
        clear HM r0 r1 c0 c1
        generalize (wr.alloc (.cells #[strV (tk k), strV (tv k)] 70)) = w2 at *
        generalize wr.heap.size = T at *
        obtain ⟨l0, l1⟩ := HTS.out k hlt
        have e0 := escL_len (tk k)
        have e1 := escL_len (tv k)
        have ep := HPL.out k hk
        have HP : Bx (partP m tk tv (k + 1) = partP m tk tv k ++ ([44] ++ escL (tk k) ++ [61] ++ escL (tv k))) := ⟨rfl⟩
        have j1 := fun w => escape_any (tk k) w (by omega)
        have j2 := fun w => escape_any (tv k) w (by omega)
        have q0 := HQ.out.1
        have q1 := HQ.out.2
        generalize tk k = K at *
        generalize tv k = V at *
        generalize escL K = EK at *
        generalize escL V = EV at *
        generalize partP m tk tv k = O at *
        have a1 := fun w => run_string_add_lists (P := Tryz.prog) w [44] EK (by simp) (by omega)
        obtain ⟨X1, h1⟩ : ∃ X, [44] ++ EK = X := ⟨_, rfl⟩
        have z1 : X1.length = EK.length + 1 := by rw [← h1]; simp
        rw [h1] at a1
        have a2 := fun w => run_string_add_lists (P := Tryz.prog) w X1 [61] (by omega) (by simp)
        obtain ⟨X2, h2⟩ : ∃ X, X1 ++ [61] = X := ⟨_, rfl⟩
        have z2 : X2.length = EK.length + 2 := by rw [← h2]; simp; omega
        rw [h2] at a2
        have a3 := fun w => run_string_add_lists (P := Tryz.prog) w X2 EV (by omega) (by omega)
        obtain ⟨X3, h3⟩ : ∃ X, X2 ++ EV = X := ⟨_, rfl⟩
        have z3 : X3.length = EK.length + 2 + EV.length := by rw [← h3]; simp; omega
        rw [h3] at a3
        have a4 := fun w => run_string_add_lists (P := Tryz.prog) w O X3 (by omega) (by omega)
        rw [h1, h2, h3] at HP
        obtain ⟨X4, h4⟩ : ∃ X, O ++ X3 = X := ⟨_, rfl⟩
        rw [h4] at a4 HP
        clear h1 h2 h3 h4 z1 z2 z3
        clear e0 e1 ep l0 l1 HQ
        refine wp_region_quiet_below (by kernel_rfl) (by kernel_rfl) ?_
        repeat (go_big_quiet_step (first | (go_at_call 23; first | (with_reducible exact Calls.regrown_of (j1 _)) | (with_reducible exact Calls.regrown_of (j2 _)))))
        refine wpQuiet_nil ?_
        intro _ hw'
        obtain ⟨⟨dq, osq⟩, hw''⟩ := hw'
        subst hw''
        have HF : Bx (SB w (Go.Sort.grow (redrawn w2 dq) osq) S m f (some ⟨b, off, none⟩) n cap) := ⟨HN.out.step (below_regrown w2 dq osq)⟩
        clear HN q0 q1 j1 j2 a1 a2 a3 a4
        generalize Go.Sort.grow (redrawn w2 dq) osq = w3 at *
        go_wp2
        exact ⟨⟨k + 1, by omega, by rw [Int.natCast_succ], by rw [HP.out], HF⟩, by simp only [intOf]; omega⟩
      · obtain rfl : k = n := by omega
        have c2 := HM.out.c2
        have ep := HPL.out k hk
        have ef := escL_len f
        have j1 := fun w => escape_any f w (by omega)
        generalize partP m tk tv k = O at *
        generalize escL f = EF at *
        have a1 := fun w => run_string_add_lists (P := Tryz.prog) w O [32] (by omega) (by simp)
        obtain ⟨X1, h1⟩ : ∃ X, O ++ [32] = X := ⟨_, rfl⟩
        have z1 : X1.length = O.length + 1 := by rw [← h1]; simp
        rw [h1] at a1 HK
        have a2 := fun w => run_string_add_lists (P := Tryz.prog) w X1 EF (by omega) (by omega)
        obtain ⟨X2, h2⟩ : ∃ X, X1 ++ EF = X := ⟨_, rfl⟩
        rw [h2] at a2 HK
        clear h1 h2 z1 ep ef
        go_wp2_with fail
        refine (j1 _).mono ?_
        rintro e w3 ⟨rfl, h3⟩
        have HF : Bx (Below S w w3) := ⟨(HM.out.step h3).below⟩
        clear h3 j1 c2 HM
        go_wp2
        go_ret
        exact ⟨by rw [HK.out]; rfl, by rw [HS.out]; exact HF.out⟩
  · have HK : Bx (keyL m f n tk tv = []) := ⟨by unfold keyL; rw [if_neg hc]⟩
    obtain ⟨C, hC⟩ : ∃ C, seriesC m f n tk tv = C := ⟨_, rfl⟩
    rw [hC] at k1 hc
    have hcc : C = 50 ∨ C = 52 := by
      rw [← hC] at hc ⊢
      unfold seriesC nameC tagsC at *
      repeat' split at hc
      all_goals simp_all
    clear hC hc
    rcases hcc with rfl | rfl
    all_goals
      rw [eV_pos (by decide)] at k1
      go_enter Tryz.func11, Tryz.ntmps11
      go_wp2_with fail
      refine k1.mono ?_
      rintro e w1 ⟨rfl, h1⟩
      have HF : Bx (Below w.heap.size w w1) := ⟨(below1 _ _).trans (h1.mono (by simp))⟩
      clear h1 k1
      go_wp2
      go_ret
      exact ⟨by rw [HK.out]; rfl, HF.out⟩
end Go.Proofs.YtbaopcpmmdmomaaGreatDoor
