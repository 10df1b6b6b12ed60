/- Contracts of num.Window, and the walk of the statement NumWindow. Condition: errors.errorType holds the handle of the type error. -/
import Derived.Test.YthlfbakndbjhoaaDoorNumDiv
set_option linter.unusedSimpArgs false
set_option linter.unusedVariables false
namespace Go.Proofs.YthlfbakndbjhoaaDoor
open Go.RowKit

theorem modN_emod (t e : Int) (he : 1 ≤ e) : modN t e = t % e := by
  have h := divmod t e
  obtain ⟨m0, m1⟩ := mod_pos t e (by omega)
  generalize divN t e = q at h
  generalize modN t e = m at *
  subst h
  rw [Int.add_comm, Int.add_mul_emod_self_right, Int.emod_eq_of_lt m0 m1]
/-- how far the beginning lies behind the time -/
def winBack (t e o : Int) : Int := (t - o) % e
theorem winBack_eq (t e o : Int) (he : 1 ≤ e) (ho0 : 0 ≤ o) (ho1 : o < e) : winBack t e o = if t % e - o < 0 then t % e - o + e else t % e - o := by
  unfold winBack
  rw [Int.sub_emod, Int.emod_eq_of_lt ho0 ho1]
  have h0 := Int.emod_nonneg t (show e ≠ 0 by omega)
  have h1 := Int.emod_lt_of_pos t (show 0 < e by omega)
  generalize t % e = m at *
  split
  · rw [← Int.add_emod_right, Int.emod_eq_of_lt (by omega) (by omega)]
  · exact Int.emod_eq_of_lt (by omega) (by omega)
theorem winBack_range (t e o : Int) (he : 1 ≤ e) : 0 ≤ winBack t e o ∧ winBack t e o < e :=
  ⟨Int.emod_nonneg _ (by omega), Int.emod_lt_of_pos _ (by omega)⟩
theorem winBack_more (t e o k : Int) (he : 1 ≤ e) (hk0 : 0 ≤ k) (hk1 : k < e) : winBack (t - winBack t e o + k) e o = k := by
  have h := Int.mul_ediv_add_emod (t - o) e
  unfold winBack
  generalize (t - o) / e = q at h
  generalize (t - o) % e = r at *
  have e1 : t - r + k - o = k + e * q := by omega
  rw [e1, Int.add_mul_emod_self_left, Int.emod_eq_of_lt hk0 hk1]

theorem win_bad (t e o : Int) (w : World) (h : e < 1 ∨ o < 0 ∨ e ≤ o) :
    Calls Tryd.prog 16 #[.int .i64 t, .int .i64 e, .int .i64 o] w fun r w' => r = .returned (.tuple #[.int .i64 0, errV 2]) ∧ w = w' := by
  by_cases h1 : e < 1
  · clear h
    go_enter Tryd.func16, Tryd.ntmps16
    go_wp2_with (go_at_call 46; refine (new_any _ _ (by decide)).mono ?_; rintro e w' ⟨rfl, rfl⟩)
    go_ret2
    exact ⟨rfl, rfl⟩
  · by_cases h2 : o < 0
    · clear h
      go_enter Tryd.func16, Tryd.ntmps16
      go_wp2_with (go_at_call 46; refine (new_any _ _ (by decide)).mono ?_; rintro e w' ⟨rfl, rfl⟩)
      go_ret2
      exact ⟨rfl, rfl⟩
    · have h3 : e ≤ o := by omega
      clear h
      go_enter Tryd.func16, Tryd.ntmps16
      go_wp2_with (go_at_call 46; refine (new_any _ _ (by decide)).mono ?_; rintro e w' ⟨rfl, rfl⟩)
      go_ret2
      exact ⟨rfl, rfl⟩
theorem win_ok (t e o : Int) (w : World) (ht0 : -9223372036854775808 ≤ t) (ht1 : t ≤ 9223372036854775807) (he : 1 ≤ e) (he1 : e ≤ 9223372036854775807) (ho0 : 0 ≤ o) (ho1 : o < e) (hs : -9223372036854775808 ≤ t - winBack t e o) :
    Calls Tryd.prog 16 #[.int .i64 t, .int .i64 e, .int .i64 o] w fun r w' => r = .returned (.tuple #[.int .i64 (t - winBack t e o), .nilIface]) ∧ w = w' := by
  have hbk := winBack_eq t e o he ho0 ho1
  obtain ⟨r0, r1⟩ := winBack_range t e o he
  have hme := modN_emod t e he
  obtain ⟨m0, m1⟩ := mod_pos t e (by omega)
  rw [← hme] at hbk
  have HM := Lib.hid hme
  clear hme
  by_cases hc : modN t e - o < 0
  · rw [if_pos hc] at hbk
    rw [hbk] at hs r0 r1 ⊢
    clear hbk HM
    go_enter Tryd.func16, Tryd.ntmps16
    go_wp2_with fail
    refine (mod_any _ _ _ (by omega) (by omega) (by omega) (by omega)).mono ?_; rintro r w' ⟨rfl, rfl⟩
    go_wp2_with fail
    refine (sub_ok _ _ _ (by omega) (by omega)).mono ?_; rintro r w' ⟨rfl, rfl⟩
    go_wp2
    go_ret2
    exact ⟨rfl, rfl⟩
  · rw [if_neg hc] at hbk
    rw [hbk] at hs r0 r1 ⊢
    clear hbk HM
    go_enter Tryd.func16, Tryd.ntmps16
    go_wp2_with fail
    refine (mod_any _ _ _ (by omega) (by omega) (by omega) (by omega)).mono ?_; rintro r w' ⟨rfl, rfl⟩
    go_wp2_with fail
    refine (sub_ok _ _ _ (by omega) (by omega)).mono ?_; rintro r w' ⟨rfl, rfl⟩
    go_wp2
    go_ret2
    exact ⟨rfl, rfl⟩
theorem win_over (t e o : Int) (w : World) (ht0 : -9223372036854775808 ≤ t) (ht1 : t ≤ 9223372036854775807) (he : 1 ≤ e) (he1 : e ≤ 9223372036854775807) (ho0 : 0 ≤ o) (ho1 : o < e) (hs : t - winBack t e o < -9223372036854775808) :
    Calls Tryd.prog 16 #[.int .i64 t, .int .i64 e, .int .i64 o] w fun r w' => r = .returned (.tuple #[.int .i64 0, errV 20]) ∧ w = w' := by
  have hbk := winBack_eq t e o he ho0 ho1
  obtain ⟨r0, r1⟩ := winBack_range t e o he
  have hme := modN_emod t e he
  obtain ⟨m0, m1⟩ := mod_pos t e (by omega)
  rw [← hme] at hbk
  clear hme
  by_cases hc : modN t e - o < 0
  · rw [if_pos hc] at hbk
    rw [hbk] at hs r0 r1
    clear hbk
    go_enter Tryd.func16, Tryd.ntmps16
    go_wp2_with fail
    refine (mod_any _ _ _ (by omega) (by omega) (by omega) (by omega)).mono ?_; rintro r w' ⟨rfl, rfl⟩
    go_wp2_with fail
    refine (sub_over _ _ _ (by omega) (by omega) (by omega) (by omega) (by omega)).mono ?_; rintro r w' ⟨rfl, rfl⟩
    go_wp2
    go_ret2
    exact ⟨rfl, rfl⟩
  · rw [if_neg hc] at hbk
    rw [hbk] at hs r0 r1
    clear hbk
    go_enter Tryd.func16, Tryd.ntmps16
    go_wp2_with fail
    refine (mod_any _ _ _ (by omega) (by omega) (by omega) (by omega)).mono ?_; rintro r w' ⟨rfl, rfl⟩
    go_wp2_with fail
    refine (sub_over _ _ _ (by omega) (by omega) (by omega) (by omega) (by omega)).mono ?_; rintro r w' ⟨rfl, rfl⟩
    go_wp2
    go_ret2
    exact ⟨rfl, rfl⟩

set_option maxHeartbeats 1000000 in
theorem window_law (t e o k : Int) (w : World) (hG : Glob w) (ht0 : -9223372036854775808 ≤ t) (ht1 : t ≤ 9223372036854775807) (he0 : -9223372036854775808 ≤ e) (he1 : e ≤ 9223372036854775807) (hk0 : -9223372036854775808 ≤ k) (hk1 : k ≤ 9223372036854775807) :
    Calls Tryd.prog 4 #[.agg #[.int .i64 t, .int .i64 e, .int .i64 o, .int .i64 k]] w fun e w' => e = .returned (.bool true) ∧ Below w.heap.size w w' := by
  have hlt := hG.lt
  have hG0 : ∀ o, Glob (w.alloc o) := fun o => hG.below (below1 _ _) hlt
  go_enter Tryd.func4, Tryd.ntmps4
  go_wp2_with fail
  refine (live_any _ (hG0 _)).mono ?_; rintro r w1 ⟨rfl, hb⟩
  obtain ⟨hc, hf⟩ := bcell hb
  have hz := hb.size
  simp at hz
  have hG1 : Glob w1 := (hG0 _).below hb (by simp)
  have hb' : Below w.heap.size w w1 := (below1 _ _).trans (hb.mono (by simp))
  clear hG0 hb
  go_wp2_with fail
  by_cases hbad : e < 1 ∨ o < 0 ∨ e ≤ o
  · refine (win_bad t e o w1 hbad).mono ?_; rintro r w2 ⟨rfl, rfl⟩
    by_cases h1 : e < 1
    · clear hbad
      go_wp2_with (go_at_call 15; refine (is_E 2 2 _ hG1 (by decide) (by decide)).mono ?_; rintro r w2 ⟨rfl, hb2⟩)
      go_ret
      exact ⟨rfl, hb'.trans (hb2.mono (by omega))⟩
    · by_cases h2 : o < 0
      · clear hbad
        go_wp2_with (go_at_call 15; refine (is_E 2 2 _ hG1 (by decide) (by decide)).mono ?_; rintro r w2 ⟨rfl, hb2⟩)
        go_ret
        exact ⟨rfl, hb'.trans (hb2.mono (by omega))⟩
      · have h3 : e ≤ o := by omega
        clear hbad
        go_wp2_with (go_at_call 15; refine (is_E 2 2 _ hG1 (by decide) (by decide)).mono ?_; rintro r w2 ⟨rfl, hb2⟩)
        go_ret
        exact ⟨rfl, hb'.trans (hb2.mono (by omega))⟩
  · have h1 : 1 ≤ e := by omega
    have h2 : 0 ≤ o := by omega
    have h3 : o < e := by omega
    clear hbad
    obtain ⟨r0, r1⟩ := winBack_range t e o h1
    by_cases hs : t - winBack t e o < -9223372036854775808
    · refine (win_over t e o w1 ht0 ht1 h1 he1 h2 h3 hs).mono ?_; rintro r w2 ⟨rfl, rfl⟩
      have hq : t < -9223372036854775808 + e := by omega
      go_wp2_with (go_at_call 15; refine (is_E 20 20 _ hG1 (by decide) (by decide)).mono ?_; rintro r w2 ⟨rfl, hb2⟩)
      go_ret
      exact ⟨by simp, hb'.trans (hb2.mono (by omega))⟩
    · have hs' : -9223372036854775808 ≤ t - winBack t e o := by omega
      refine (win_ok t e o w1 ht0 ht1 h1 he1 h2 h3 hs').mono ?_; rintro r w2 ⟨rfl, rfl⟩
      have u1 : (IntKind.u64.wrap (IntKind.u64.wrap t - IntKind.u64.wrap (t - winBack t e o)) : Int) = winBack t e o := by
        simp only [IntKind.wrap_u64]; omega
      have u2 : IntKind.u64.wrap e = e := by rw [IntKind.wrap_u64]; omega
      have hmore : 0 ≤ k → k < e → winBack (t - winBack t e o + k) e o = k := fun a b => winBack_more t e o k h1 a b
      have HM := Lib.hid hmore
      clear hmore
      go_wp2_with fail
      all_goals first
        | (go_ret; exact ⟨rfl, hb'⟩)
        | (have hq := ‹(0 ≤ k ∧ k < e) ∧ _›
           have hm := HM.out hq.1.1 hq.1.2
           refine (win_ok (t - winBack t e o + k) e o w1 (by omega) (by omega) h1 he1 h2 h3 (by omega)).mono ?_
           rintro r w2 ⟨rfl, rfl⟩
           rw [hm, show t - winBack t e o + k - k = t - winBack t e o from by omega]
           clear hm
           go_wp2
           go_ret
           exact ⟨by simp, hb'⟩)
end Go.Proofs.YthlfbakndbjhoaaDoor
