/- The reference's Plus, Minus, Compare, Small, size of sums. -/
import Derived.Test.YthlfbakndbjhoaaDoorNumDi
import Derived.Test.YthlfbakndbjhoaaDoorNumSu
import Derived.Test.YthlfbakndbjhoaaDoorNumRa
set_option linter.unusedSimpArgs false
set_option linter.unusedVariables false
namespace Go.Proofs.YthlfbakndbjhoaaDoor
open Go.RowKit
set_option maxRecDepth 100000 in
theorem rplus_any (h l n : Int) (hs : SumW h l) (hn : I64 n) (w : World) :
    Calls Tryd.prog 39 #[.agg #[.int .i64 h, .int .u64 l], .int .i64 n] w fun e w' => e = .returned (.agg #[.int .i64 (plusHi h l n), .int .u64 (plusLo l n)]) ∧ Below w.heap.size w w' := by
  obtain ⟨e1, e2⟩ := plus_val h l n hs.h0 hs.h1 hs.l0 hs.l1 hn.lo hn.hi
  rw [e1, e2]
  clear e1 e2
  obtain ⟨h0, h1, l0, l1⟩ := hs
  obtain ⟨n0, n1⟩ := hn
  obtain ⟨x, hx⟩ : ∃ x, x = (l + n) % 18446744073709551616 := ⟨_, rfl⟩
  have r1 : IntKind.u64.wrap (l + IntKind.u64.wrap n) = x := by rw [IntKind.wrap_u64, IntKind.wrap_u64]; omega
  have r2 : IntKind.u64.wrap n = (if n < 0 then n + 18446744073709551616 else n) := by rw [IntKind.wrap_u64]; split <;> omega
  rw [← hx]
  have HX := Lib.hid hx
  clear hx
  have R2 := Lib.hid r2
  clear r2
  by_cases hc : x < l
  · by_cases hm : n < 0
    · have e : wrap64 (h + (l + n) / 18446744073709551616) = wrap64 (wrap64 (h + 1) - 1) := by have := HX.out; have := R2.out; rw [if_pos hm] at this; unfold wrap64; omega
      rw [e]
      clear e h0 h1 l0 l1 n0 n1 HX R2
      go_enter Tryd.func39, Tryd.ntmps39
      go_wp2
      exact bodyPost_ret (v := .agg #[.int .i64 (wrap64 (wrap64 (h + 1) - 1)), .int .u64 x]) (by simp [results, Tryd.results39, go_sem]) rfl ⟨rfl, below3 _ _ _ _⟩
    · have e : wrap64 (h + (l + n) / 18446744073709551616) = wrap64 (h + 1) := by have := HX.out; have := R2.out; rw [if_neg hm] at this; unfold wrap64; omega
      rw [e]
      clear e h0 h1 l0 l1 n0 n1 HX R2
      go_enter Tryd.func39, Tryd.ntmps39
      go_wp2
      exact bodyPost_ret (v := .agg #[.int .i64 (wrap64 (h + 1)), .int .u64 x]) (by simp [results, Tryd.results39, go_sem]) rfl ⟨rfl, below3 _ _ _ _⟩
  · by_cases hm : n < 0
    · have e : wrap64 (h + (l + n) / 18446744073709551616) = wrap64 (h - 1) := by have := HX.out; have := R2.out; rw [if_pos hm] at this; unfold wrap64; omega
      rw [e]
      clear e h0 h1 l0 l1 n0 n1 HX R2
      go_enter Tryd.func39, Tryd.ntmps39
      go_wp2
      exact bodyPost_ret (v := .agg #[.int .i64 (wrap64 (h - 1)), .int .u64 x]) (by simp [results, Tryd.results39, go_sem]) rfl ⟨rfl, below3 _ _ _ _⟩
    · have e : wrap64 (h + (l + n) / 18446744073709551616) = h := by have := HX.out; have := R2.out; rw [if_neg hm] at this; unfold wrap64; omega
      rw [e]
      clear e h0 h1 l0 l1 n0 n1 HX R2
      go_enter Tryd.func39, Tryd.ntmps39
      go_wp2
      exact bodyPost_ret (v := .agg #[.int .i64 h, .int .u64 x]) (by simp [results, Tryd.results39, go_sem]) rfl ⟨rfl, below3 _ _ _ _⟩
set_option maxRecDepth 100000 in
theorem rminus_any (h l n : Int) (hs : SumW h l) (hn : I64 n) (w : World) :
    Calls Tryd.prog 40 #[.agg #[.int .i64 h, .int .u64 l], .int .i64 n] w fun e w' => e = .returned (.agg #[.int .i64 (minusHi h l n), .int .u64 (minusLo l n)]) ∧ Below w.heap.size w w' := by
  obtain ⟨e1, e2⟩ := minus_val h l n hs.h0 hs.h1 hs.l0 hs.l1 hn.lo hn.hi
  rw [e1, e2]
  clear e1 e2
  obtain ⟨h0, h1, l0, l1⟩ := hs
  obtain ⟨n0, n1⟩ := hn
  obtain ⟨x, hx⟩ : ∃ x, x = (l - n) % 18446744073709551616 := ⟨_, rfl⟩
  have r1 : IntKind.u64.wrap (l - IntKind.u64.wrap n) = x := by rw [IntKind.wrap_u64, IntKind.wrap_u64]; omega
  have r2 : IntKind.u64.wrap n = (if n < 0 then n + 18446744073709551616 else n) := by rw [IntKind.wrap_u64]; split <;> omega
  rw [← hx]
  have HX := Lib.hid hx
  clear hx
  have R2 := Lib.hid r2
  clear r2
  by_cases hc : l < IntKind.u64.wrap n
  · by_cases hm : n < 0
    · have e : wrap64 (h + (l - n) / 18446744073709551616) = wrap64 (wrap64 (h - 1) + 1) := by have := HX.out; have := R2.out; rw [if_pos hm] at this; unfold wrap64; omega
      rw [e]
      clear e h0 h1 l0 l1 n0 n1 HX R2
      go_enter Tryd.func40, Tryd.ntmps40
      go_wp2
      exact bodyPost_ret (v := .agg #[.int .i64 (wrap64 (wrap64 (h - 1) + 1)), .int .u64 x]) (by simp [results, Tryd.results40, go_sem]) rfl ⟨rfl, below3 _ _ _ _⟩
    · have e : wrap64 (h + (l - n) / 18446744073709551616) = wrap64 (h - 1) := by have := HX.out; have := R2.out; rw [if_neg hm] at this; unfold wrap64; omega
      rw [e]
      clear e h0 h1 l0 l1 n0 n1 HX R2
      go_enter Tryd.func40, Tryd.ntmps40
      go_wp2
      exact bodyPost_ret (v := .agg #[.int .i64 (wrap64 (h - 1)), .int .u64 x]) (by simp [results, Tryd.results40, go_sem]) rfl ⟨rfl, below3 _ _ _ _⟩
  · by_cases hm : n < 0
    · have e : wrap64 (h + (l - n) / 18446744073709551616) = wrap64 (h + 1) := by have := HX.out; have := R2.out; rw [if_pos hm] at this; unfold wrap64; omega
      rw [e]
      clear e h0 h1 l0 l1 n0 n1 HX R2
      go_enter Tryd.func40, Tryd.ntmps40
      go_wp2
      exact bodyPost_ret (v := .agg #[.int .i64 (wrap64 (h + 1)), .int .u64 x]) (by simp [results, Tryd.results40, go_sem]) rfl ⟨rfl, below3 _ _ _ _⟩
    · have e : wrap64 (h + (l - n) / 18446744073709551616) = h := by have := HX.out; have := R2.out; rw [if_neg hm] at this; unfold wrap64; omega
      rw [e]
      clear e h0 h1 l0 l1 n0 n1 HX R2
      go_enter Tryd.func40, Tryd.ntmps40
      go_wp2
      exact bodyPost_ret (v := .agg #[.int .i64 h, .int .u64 x]) (by simp [results, Tryd.results40, go_sem]) rfl ⟨rfl, below3 _ _ _ _⟩
set_option maxRecDepth 100000 in
theorem rcompare_any (h l h' l' : Int) (w : World) :
    Calls Tryd.prog 41 #[.agg #[.int .i64 h, .int .u64 l], .agg #[.int .i64 h', .int .u64 l']] w fun e w' => e = .returned (.int .i64 (if h = h' ∧ l = l' then 0 else if h < h' ∨ h = h' ∧ l < l' then -1 else 1)) ∧ Below w.heap.size w w' := by
  have e : (if h = h' ∧ l = l' then (0 : Int) else if h < h' ∨ h = h' ∧ l < l' then -1 else 1) = (if h < h' then -1 else if h' < h then 1 else if l < l' then -1 else if l' < l then 1 else 0) := by
    repeat' split
    all_goals omega
  rw [e]
  clear e
  go_enter Tryd.func41, Tryd.ntmps41
  go_wp2
  all_goals (go_ret; refine ⟨?_, below2 _ _ _⟩; congr 2; repeat' split)
  all_goals first | rfl | (exfalso; omega)
set_option maxRecDepth 100000 in
theorem rsmall_ok (h l : Int) (w : World) (hl0 : 0 ≤ l) (hl1 : l ≤ 18446744073709551615) (hf : SmallFits h l) :
    Calls Tryd.prog 44 #[.agg #[.int .i64 h, .int .u64 l]] w fun e w' => e = .returned (.tuple #[.int .i64 (wrap64 l), badV 0]) ∧ Below w.heap.size w w' := by
  rcases hf with ⟨rfl, h2⟩ | ⟨rfl, h2⟩
  · rw [show wrap64 l = l by unfold wrap64; omega]
    go_enter Tryd.func44, Tryd.ntmps44
    go_wp2
    all_goals exact bodyPost_ret (v := .tuple #[.int .i64 l, badV 0]) (by simp [results, Tryd.results44, go_sem]) rfl ⟨rfl, below2 _ _ _⟩
  · have h3 : ¬ l ≤ 9223372036854775807 := by omega
    have h4 : 9223372036854775807 < l := by omega
    go_enter Tryd.func44, Tryd.ntmps44
    go_wp2
    all_goals exact bodyPost_ret (v := .tuple #[.int .i64 (wrap64 l), badV 0]) (by simp [results, Tryd.results44, go_sem]) rfl ⟨rfl, below2 _ _ _⟩
set_option maxRecDepth 100000 in
theorem rsmall_over (h l : Int) (w : World) (hl0 : 0 ≤ l) (hl1 : l ≤ 18446744073709551615) (hf : ¬ SmallFits h l) :
    Calls Tryd.prog 44 #[.agg #[.int .i64 h, .int .u64 l]] w fun e w' => e = .returned (.tuple #[.int .i64 0, badV 20]) ∧ Below w.heap.size w w' := by
  unfold SmallFits at hf
  obtain ⟨t1, t2⟩ : (h = 0 → 9223372036854775807 < l) ∧ (h = -1 → l ≤ 9223372036854775807) := ⟨fun e => by omega, fun e => by omega⟩
  by_cases e0 : h = 0
  · have := t1 e0
    clear hf t1 t2
    subst e0
    go_enter Tryd.func44, Tryd.ntmps44
    go_wp2_with (go_at_call 51; refine (badnew_x _ _).mono ?_; rintro e w' ⟨rfl, rfl⟩)
    all_goals exact bodyPost_ret (v := .tuple #[.int .i64 0, badV 20]) (by simp [results, Tryd.results44, go_sem]) rfl ⟨rfl, below3 _ _ _ _⟩
  · by_cases e1 : h = -1
    · have := t2 e1
      clear hf t1 t2
      subst e1
      go_enter Tryd.func44, Tryd.ntmps44
      go_wp2_with (go_at_call 51; refine (badnew_x _ _).mono ?_; rintro e w' ⟨rfl, rfl⟩)
      all_goals exact bodyPost_ret (v := .tuple #[.int .i64 0, badV 20]) (by simp [results, Tryd.results44, go_sem]) rfl ⟨rfl, below3 _ _ _ _⟩
    · have z0 : (h == 0) = false := by simpa using e0
      have z1 : (h == -1) = false := by simpa using e1
      clear hf t1 t2 e0 e1
      go_enter Tryd.func44, Tryd.ntmps44
      go_wp2_with (go_at_call 51; refine (badnew_x _ _).mono ?_; rintro e w' ⟨rfl, rfl⟩)
      all_goals exact bodyPost_ret (v := .tuple #[.int .i64 0, badV 20]) (by simp [results, Tryd.results44, go_sem]) rfl ⟨rfl, below3 _ _ _ _⟩
attribute [local go_sem] u64_signed
set_option maxRecDepth 100000 in
theorem rsize_any (h l : Int) (w : World) (hs : SumW h l) :
    Calls Tryd.prog 58 #[.agg #[.int .i64 h, .int .u64 l]] w fun e w' => e = .returned (.tuple #[.int .u64 (absHi h l), .int .u64 (absLo h l)]) ∧ Below w.heap.size w w' := by
  obtain ⟨h0, h1, l0, l1⟩ := hs
  by_cases hh : h < 0
  · obtain ⟨a, ha⟩ : ∃ a, bits .xor .u64 IntKind.u64.max l = a := ⟨_, rfl⟩
    obtain ⟨b, hb⟩ : ∃ b, bits .xor .u64 IntKind.u64.max (IntKind.u64.wrap h) = b := ⟨_, rfl⟩
    obtain ⟨u0, u1⟩ := u64_range h
    have ea : a = 18446744073709551615 - l := by rw [← ha]; exact not64 l l0 l1
    have eb : b = 18446744073709551615 - IntKind.u64.wrap h := by rw [← hb]; exact not64 _ u0 u1
    have ew : IntKind.u64.wrap h = h + 18446744073709551616 := by rw [IntKind.wrap_u64]; omega
    rw [ew] at eb
    obtain ⟨x, hx⟩ : ∃ x, IntKind.u64.wrap (a + 1) = x := ⟨_, rfl⟩
    have ex : x = (18446744073709551616 - l) % 18446744073709551616 := by rw [← hx, IntKind.wrap_u64, ea]; omega
    have e2 : absLo h l = x := by unfold absLo; rw [if_neg (by omega)]; omega
    have e1 : absHi h l = if x = 0 then b + 1 else b := by
      unfold absHi; rw [if_neg (by omega)]
      split <;> omega
    have r1 : IntKind.u64.wrap (b + 1) = b + 1 ∨ x ≠ 0 := by rw [IntKind.wrap_u64]; omega
    rw [e1, e2]
    by_cases hx0 : x = 0
    · rw [if_pos hx0]
      have hz : (x == 0) = true := by simpa using hx0
      have r2 : IntKind.u64.wrap (b + 1) = b + 1 := r1.resolve_right (fun h => h hx0)
      obtain ⟨y, hy⟩ : ∃ y, b + 1 = y := ⟨_, rfl⟩
      rw [hy] at r2 ⊢
      have r3 : IntKind.u64.wrap (b + 1) = y := by rw [hy, r2]
      clear ea eb ex e1 e2 r1 hy r2 hx0 ew u0 u1 l1 h0 h1
      go_enter Tryd.func58, Tryd.ntmps58
      go_wp2
      go_ret2
      exact ⟨rfl, below1 _ _⟩
    · rw [if_neg hx0]
      have hz : (x == 0) = false := by simpa using hx0
      clear ea eb ex e1 e2 r1 hx0 ew u0 u1 l1 h0 h1
      go_enter Tryd.func58, Tryd.ntmps58
      go_wp2
      go_ret2
      exact ⟨rfl, below1 _ _⟩
  · rw [show absHi h l = h by unfold absHi; rw [if_pos (by omega)], show absLo h l = l by unfold absLo; rw [if_pos (by omega)]]
    have u : IntKind.u64.wrap h = h := by rw [IntKind.wrap_u64]; omega
    go_enter Tryd.func58, Tryd.ntmps58
    go_wp2
    go_ret2
    exact ⟨rfl, below1 _ _⟩
end Go.Proofs.YthlfbakndbjhoaaDoor
