/- Contracts of the document's Window and of both Logs, and the walk of the statement NumWindows. Condition: errors.errorType holds the handle of the type error. -/
import Derived.Test.YthlfbakndbjhoaaDoorNumReck
set_option linter.unusedSimpArgs false
set_option linter.unusedVariables false
namespace Go.Proofs.YthlfbakndbjhoaaDoor
open Go.RowKit

theorem rwin_bad (t e o : Int) (w : World) (h : e < 1 ∨ o < 0 ∨ e ≤ o) :
    Calls Tryd.prog 31 #[.int .i64 t, .int .i64 e, .int .i64 o] w fun r w' => r = .returned (.tuple #[.int .i64 0, badV 2]) ∧ Below w.heap.size w w' := by
  by_cases h1 : e < 1
  · clear h
    go_enter Tryd.func31, Tryd.ntmps31
    go_wp2_with (go_at_call 51; refine (badnew_x _ _).mono ?_; rintro e w' ⟨rfl, rfl⟩)
    exact bodyPost_ret (v := .tuple #[.int .i64 0, badV 2]) (by simp [results, Tryd.results31, go_sem]) rfl ⟨rfl, below2 _ _ _⟩
  · by_cases h2 : o < 0
    · clear h
      go_enter Tryd.func31, Tryd.ntmps31
      go_wp2_with (go_at_call 51; refine (badnew_x _ _).mono ?_; rintro e w' ⟨rfl, rfl⟩)
      exact bodyPost_ret (v := .tuple #[.int .i64 0, badV 2]) (by simp [results, Tryd.results31, go_sem]) rfl ⟨rfl, below2 _ _ _⟩
    · have h3 : e ≤ o := by omega
      clear h
      go_enter Tryd.func31, Tryd.ntmps31
      go_wp2_with (go_at_call 51; refine (badnew_x _ _).mono ?_; rintro e w' ⟨rfl, rfl⟩)
      exact bodyPost_ret (v := .tuple #[.int .i64 0, badV 2]) (by simp [results, Tryd.results31, go_sem]) rfl ⟨rfl, below2 _ _ _⟩
theorem rwin_good (t e o : Int) (w : World) (hG : Glob w) (ht : I64 t) (he : 1 ≤ e) (he1 : e ≤ 9223372036854775807) (ho0 : 0 ≤ o) (ho1 : o < e) :
    Calls Tryd.prog 31 #[.int .i64 t, .int .i64 e, .int .i64 o] w fun r w' => r = .returned (.tuple #[.int .i64 (fitN (t - winBack t e o)), badV (fitC (t - winBack t e o))]) ∧ Below w.heap.size w w' := by
  have hbk := winBack_eq t e o he ho0 ho1
  obtain ⟨r0, r1⟩ := winBack_range t e o he
  have hme := modN_emod t e he
  obtain ⟨m0, m1⟩ := mod_pos t e (by omega)
  rw [← hme] at hbk
  clear hme
  by_cases hc : modN t e - o < 0
  · rw [if_pos hc] at hbk
    rw [hbk] at r0 r1 ⊢
    clear hbk
    go_enter Tryd.func31, Tryd.ntmps31
    go_wp2_with fail
    refine (rmod_any _ _ _ ⟨by omega, by omega⟩ (by omega) (by omega)).mono ?_; rintro r w1 ⟨rfl, h1⟩
    have I := (Inv.alloc (T := 44) hG hG (Below.refl _ _) (.int .i64 0) (.int .i64 0) (.int .i64 0) (.bool false) (.bool false)).step h1
    clear h1 hG
    go_wp2_with fail
    refine (rsub_all _ _ _ ht ⟨by omega, by omega⟩).mono ?_; rintro r w2 ⟨rfl, h2⟩
    replace I := (I.step (below1 _ _)).step h2
    clear h2
    have c0 := I.c0; have c1 := I.c1; have c2 := I.c2; have c3 := I.c3; have c4 := I.c4; have f := I.f
    go_wp2
    replace I := I.set (.int .i64 (fitC (t - (modN t e - o + e)))) (.int .i64 0) (.int .i64 0) (.bool false) (.bool false)
    exact bodyPost_ret (v := .tuple #[.int .i64 (fitN (t - (modN t e - o + e))), badV (fitC (t - (modN t e - o + e)))]) (by simp [results, Tryd.results31, go_sem, c0, c1, c2, c3, c4]) rfl ⟨rfl, I.below⟩
  · rw [if_neg hc] at hbk
    rw [hbk] at r0 r1 ⊢
    clear hbk
    go_enter Tryd.func31, Tryd.ntmps31
    go_wp2_with fail
    refine (rmod_any _ _ _ ⟨by omega, by omega⟩ (by omega) (by omega)).mono ?_; rintro r w1 ⟨rfl, h1⟩
    have I := (Inv.alloc (T := 44) hG hG (Below.refl _ _) (.int .i64 0) (.int .i64 0) (.int .i64 0) (.bool false) (.bool false)).step h1
    clear h1 hG
    go_wp2_with fail
    refine (rsub_all _ _ _ ht ⟨by omega, by omega⟩).mono ?_; rintro r w2 ⟨rfl, h2⟩
    replace I := (I.step (below1 _ _)).step h2
    clear h2
    have c0 := I.c0; have c1 := I.c1; have c2 := I.c2; have c3 := I.c3; have c4 := I.c4; have f := I.f
    go_wp2
    replace I := I.set (.int .i64 (fitC (t - (modN t e - o)))) (.int .i64 0) (.int .i64 0) (.bool false) (.bool false)
    exact bodyPost_ret (v := .tuple #[.int .i64 (fitN (t - (modN t e - o))), badV (fitC (t - (modN t e - o)))]) (by simp [results, Tryd.results31, go_sem, c0, c1, c2, c3, c4]) rfl ⟨rfl, I.below⟩

def winOk (e o : Int) : Prop := 1 ≤ e ∧ 0 ≤ o ∧ o < e
open Classical in
noncomputable def winN (t e o : Int) : Int := if winOk e o then fitN (t - winBack t e o) else 0
open Classical in
noncomputable def winC (t e o : Int) : Int := if winOk e o then fitC (t - winBack t e o) else 2
theorem winC_nn (t e o : Int) : 0 ≤ winC t e o := by unfold winC; split; exact fitC_nn _; omega
theorem win_all (t e o : Int) (w : World) (ht : I64 t) (he : I64 e) : Calls Tryd.prog 16 #[.int .i64 t, .int .i64 e, .int .i64 o] w fun r w' => r = .returned (.tuple #[.int .i64 (winN t e o), eV (winC t e o)]) ∧ w = w' := by
  unfold winN winC
  by_cases h : winOk e o
  · rw [if_pos h, if_pos h]
    obtain ⟨h1, h2, h3⟩ := h
    obtain ⟨r0, r1⟩ := winBack_range t e o h1
    have := ht.hi
    by_cases hf : Fits (t - winBack t e o)
    · rw [show fitN (t - winBack t e o) = t - winBack t e o by unfold fitN; rw [if_pos hf], show fitC (t - winBack t e o) = 0 by unfold fitC; rw [if_pos hf]]
      exact win_ok t e o w ht.lo ht.hi h1 he.hi h2 h3 hf.1
    · rw [show fitN (t - winBack t e o) = 0 by unfold fitN; rw [if_neg hf], show fitC (t - winBack t e o) = 20 by unfold fitC; rw [if_neg hf]]
      exact win_over t e o w ht.lo ht.hi h1 he.hi h2 h3 (by unfold Fits at hf; omega)
  · rw [if_neg h, if_neg h]; exact win_bad t e o w (by unfold winOk at h; omega)
theorem rwin_all (t e o : Int) (w : World) (hG : Glob w) (ht : I64 t) (he : I64 e) : Calls Tryd.prog 31 #[.int .i64 t, .int .i64 e, .int .i64 o] w fun r w' => r = .returned (.tuple #[.int .i64 (winN t e o), badV (winC t e o)]) ∧ Below w.heap.size w w' := by
  unfold winN winC
  by_cases h : winOk e o
  · rw [if_pos h, if_pos h]
    exact rwin_good t e o w hG ht h.1 he.hi h.2.1 h.2.2
  · rw [if_neg h, if_neg h]; exact rwin_bad t e o w (by unfold winOk at h; omega)

/-! the logarithm -/
def logZ (n : Int) : Int := if n < 1 then 0 else (Lib.bitLen n.toNat : Int) - 1
theorem bitLen_pos (n : Int) (h : 1 ≤ n) (h1 : n ≤ 9223372036854775807) : 1 ≤ Lib.bitLen n.toNat ∧ Lib.bitLen n.toNat ≤ 63 := by
  have h2 := Lib.bitLen_half n.toNat (by omega) (by show n.toNat < 18446744073709551616; omega)
  have h3 := Lib.bitLen_le n.toNat 63 (by decide) (by show n.toNat < 9223372036854775808; omega)
  omega
theorem log_any (n : Int) (w : World) (hn : I64 n) : Calls Tryd.prog 32 #[.int .i64 n] w fun r w' => r = .returned (.int .i64 (logZ n)) ∧ w = w' := by
  unfold logZ
  by_cases h : n < 1
  · rw [if_pos h]
    go_enter Tryd.func32, Tryd.ntmps32
    go_wp2
    go_ret
    exact ⟨rfl, rfl⟩
  · rw [if_neg h]
    obtain ⟨b0, b1⟩ := bitLen_pos n (by omega) hn.hi
    have u : IntKind.u64.wrap n = n := by have := hn.hi; rw [IntKind.wrap_u64]; omega
    have hi := hn.hi
    generalize hB : Lib.bitLen n.toNat = B at *
    have HB := Lib.hid hB
    clear hB
    go_enter Tryd.func32, Tryd.ntmps32
    go_wp2_with (go_at_call 53; refine (Tryd.bits_Len n _ (by omega) (by omega)).mono ?_; rw [HB.out]; rintro e w' ⟨rfl, rfl⟩)
    go_ret
    exact ⟨rfl, rfl⟩
theorem rlog_any (n : Int) (w : World) (hn : I64 n) : Calls Tryd.prog 33 #[.int .i64 n] w fun r w' => r = .returned (.int .i64 (logZ n)) ∧ w = w' := by
  have hlo := hn.lo
  have hhi := hn.hi
  go_enter Tryd.func33, Tryd.ntmps33
  go_wp2
  go_loop [0, 3] (fun m k => ∃ x y : Int, m = .int .i64 x ∧ k = .int .i64 y ∧ x ≤ 9223372036854775807 ∧ -9223372036854775808 ≤ x ∧ 0 ≤ y ∧ y ≤ 64 ∧ logZ n = logZ x + y ∧ (1 < x → y + Lib.bitLen x.toNat ≤ 64)) (fun m _ => (intOf m).toNat)
  case atStart => exact ⟨n, 0, rfl, rfl, hhi, hlo, by omega, by omega, by simp, fun h => by have := bitLen_pos n (by omega) hhi; omega⟩
  case round =>
    obtain ⟨x, y, rfl, rfl, hx1, hx0, hy0, hy1, hl, hb⟩ := hrel
    by_cases hx : 1 < x
    · have hb' := hb hx
      obtain ⟨p0, p1⟩ := bitLen_pos x (by omega) hx1
      have hh := Lib.bitLen_half x.toNat (by omega) (by show x.toNat < 18446744073709551616; omega)
      have hl2 : logZ n = logZ (x / 2) + (y + 1) := by
        rw [hl]; unfold logZ
        rw [if_neg (by omega), if_neg (by omega), show (x / 2).toNat = x.toNat / 2 by omega]; omega
      have hb2 : 1 < x / 2 → y + 1 + Lib.bitLen (x / 2).toNat ≤ 64 := fun _ => by rw [show (x / 2).toNat = x.toNat / 2 by omega]; omega
      have HL := Lib.hid hl2
      have HB := Lib.hid hb2
      have hy : y + 1 ≤ 64 := by omega
      clear hl hb hb' hh hl2 hb2 p0 p1
      go_wp2
      go_round
      case rel => exact ⟨x / 2, y + 1, rfl, rfl, by omega, by omega, by omega, by omega, HL.out, HB.out⟩
      case measure => simp [intOf]; omega
    · have hf : logZ n = y := by rw [hl]; unfold logZ; split; omega; (have : x = 1 := by omega); subst this; simp [show Lib.bitLen 1 = 1 by decide]
      have HF := Lib.hid hf
      clear hl hb hf
      go_wp2
      go_ret
      rw [HF.out]
      exact ⟨rfl, rfl⟩

set_option maxHeartbeats 1000000 in
theorem windows_law (t e o n : Int) (w : World) (hG : Glob w) (ht : I64 t) (he : I64 e) (hn : I64 n) :
    Calls Tryd.prog 7 #[.agg #[.int .i64 t, .int .i64 e, .int .i64 o, .int .i64 n]] w fun e w' => e = .returned (.bool true) ∧ Below w.heap.size w w' := by
  have hlt := hG.lt
  have hG0 : ∀ o, Glob (w.alloc o) := fun o => hG.below (below1 _ _) hlt
  go_enter Tryd.func7, Tryd.ntmps7
  go_wp2_with fail
  refine (live_any _ (hG0 _)).mono ?_; rintro r w1 ⟨rfl, hb⟩
  obtain ⟨hc, hf⟩ := bcell hb
  have hz := hb.size
  simp at hz
  have hG1 : Glob w1 := (hG0 _).below hb (by simp)
  have hb' : Below w.heap.size w w1 := (below1 _ _).trans (hb.mono (by simp))
  clear hG0 hb
  go_wp2_with fail
  refine (win_all t e o _ ht he).mono ?_; rintro r w2 ⟨rfl, rfl⟩
  clear hc hf
  go_wp2_with fail
  refine (rwin_all t e o _ hG1 ht he).mono ?_; rintro r w3 ⟨rfl, h3⟩
  have G3 := hG1.below h3 hG1.lt
  have I := Inv.alloc (T := 44) hG G3 (hb'.trans (h3.mono (by omega))) (.int .i64 (winC t e o)) (.int .i64 0) (.int .i64 0) (.bool false) (.bool false)
  clear h3 G3 hb' hz
  go_wp2_with fail
  refine (same_any _ _ _ I.glob (winC_nn _ _ _)).mono ?_; rintro r w4 ⟨rfl, h4⟩
  replace I := I.step h4
  have HB := Lib.hid I.below
  clear I h4
  go_wp2_with (first | (go_at_call 32; refine (log_any n _ hn).mono ?_; rintro r w5 ⟨rfl, rfl⟩) | (go_at_call 33; refine (rlog_any n _ hn).mono ?_; rintro r w5 ⟨rfl, rfl⟩))
  go_ret
  exact ⟨by simp, HB.out⟩
end Go.Proofs.YthlfbakndbjhoaaDoor
