/- The reference's Ratio. -/
import Derived.Test.YtpjlikgognhjpaaDoorNumRs
set_option linter.unusedSimpArgs false
set_option linter.unusedVariables false
namespace Go.Proofs.YtpjlikgognhjpaaDoor
open Go.RowKit
theorem ratio_floor (h l n M d q r : Int) (hs : SumW h l) (hn : I64 n) (hz : n ≠ 0) (g : RatioW h l n M d q r) :
    0 ≤ q ∧ q ≤ M ∧ 0 ≤ r ∧ r < d ∧
    ((isNeg h == decide (n < 0)) = true → floorZ (sZ h l) n = q) ∧ ((isNeg h == decide (n < 0)) = false → floorZ (sZ h l) n = if r = 0 then -q else -(q + 1)) := by
  obtain ⟨a0, a1, b0, b1, e⟩ := abs_val h l hs
  obtain ⟨hM, hd, hq, hr⟩ := g
  obtain ⟨d0, d1⟩ := absN_pos n hn hz
  rw [← hd] at d0 d1
  rw [← hM] at e
  have M0 : 0 ≤ M := by omega
  have q0 : 0 ≤ q := by rw [hq]; exact Int.ediv_nonneg M0 (by omega)
  have q1 : q ≤ M := by rw [hq]; exact Int.ediv_le_self _ M0
  refine ⟨q0, q1, by rw [hr]; exact Int.emod_nonneg _ (by omega), by rw [hr]; exact Int.emod_lt_of_pos _ d0, fun hb => ?_, fun hb => ?_⟩
  · refine floor_same (sZ h l) n M d q d0 M0 ?_ hq
    rw [beq_iff_eq] at hb
    unfold isNeg at hb
    rw [decide_eq_decide] at hb
    unfold absN at hd
    by_cases hh : h < 0
    · rw [if_pos hh] at e; rw [if_pos (hb.1 hh)] at hd; exact .inr ⟨by omega, by omega⟩
    · rw [if_neg hh] at e; rw [if_neg (fun x => hh (hb.2 x))] at hd; exact .inl ⟨by omega, by omega⟩
  · refine floor_diff (sZ h l) n M d q r d0 M0 ?_ hq hr
    rw [beq_eq_false_iff_ne] at hb
    unfold isNeg at hb
    rw [ne_eq, decide_eq_decide] at hb
    unfold absN at hd
    by_cases hh : h < 0
    · rw [if_pos hh] at e
      have hn0 : ¬ n < 0 := fun x => hb ⟨fun _ => x, fun _ => hh⟩
      rw [if_neg hn0] at hd; exact .inr ⟨by omega, by omega⟩
    · rw [if_neg hh] at e
      have hn0 : n < 0 := by
        rcases Int.lt_or_le n 0 with x | x
        · exact x
        · exact absurd ⟨fun y => absurd y hh, fun y => absurd y (by omega)⟩ hb
      rw [if_pos hn0] at hd; exact .inl ⟨by omega, by omega⟩

theorem rratio_zero (h l : Int) (w : World) :
    Calls Tryd.prog 45 #[.agg #[.int .i64 h, .int .u64 l], .int .i64 0] w fun e w' => e = .returned (.tuple #[.int .i64 0, badV 21]) ∧ Below w.heap.size w w' := by
  go_enter Tryd.func45, Tryd.ntmps45
  go_wp2_with (go_at_call 51; refine (badnew_x _ _).mono ?_; rintro e w' ⟨rfl, rfl⟩)
  exact bodyPost_ret (v := .tuple #[.int .i64 0, badV 21]) (by simp [results, Tryd.results45, go_sem]) rfl ⟨rfl, below3 _ _ _ _⟩
/-- the result's box: an error that is none, and nothing frozen -/
structure RB (w0 w : World) (S R : Nat) (h : Int) : Prop where
  below : Below w0.heap.size w0 w
  oS : w0.heap.size ≤ S
  oR : S < R
  lt : R < w.heap.size
  s0 : w.cell? ⟨S, 0, none⟩ = some (.int .i64 h)
  c0 : w.cell? ⟨R, 0, none⟩ = some (.int .i64 0)
  c1 : w.cell? ⟨R, 1, none⟩ = some (.int .i64 0)
  c2 : w.cell? ⟨R, 2, none⟩ = some (.int .i64 0)
  c3 : w.cell? ⟨R, 3, none⟩ = some (.bool false)
  c4 : w.cell? ⟨R, 4, none⟩ = some (.bool false)
  f : ∀ i, w.frozen? ⟨R, i, none⟩ = false
theorem RB.alloc (w : World) (h l : Int) (T T' : Nat) : RB w ((w.alloc (.cells #[.int .i64 h, .int .u64 l] T)).alloc (.cells #[.int .i64 0, .int .i64 0, .int .i64 0, .bool false, .bool false] T')) w.heap.size (w.heap.size + 1) h where
  below := below2 _ _ _
  oS := Nat.le_refl _
  oR := by omega
  lt := by simp only [heap_push, Array.size_push]; omega
  s0 := by rw [World.cell?_alloc_lt _ _ _ (by simp only [heap_push, Array.size_push]; omega), World.cell?_alloc_at _ _ _ _ rfl]; rfl
  c0 := by rw [World.cell?_alloc_at _ _ _ _ (by simp only [heap_push, Array.size_push])]; rfl
  c1 := by rw [World.cell?_alloc_at _ _ _ _ (by simp only [heap_push, Array.size_push])]; rfl
  c2 := by rw [World.cell?_alloc_at _ _ _ _ (by simp only [heap_push, Array.size_push])]; rfl
  c3 := by rw [World.cell?_alloc_at _ _ _ _ (by simp only [heap_push, Array.size_push])]; rfl
  c4 := by rw [World.cell?_alloc_at _ _ _ _ (by simp only [heap_push, Array.size_push])]; rfl
  f := fun i => by
    rw [frozen?_alloc_cells, frozen?_alloc_cells]
    have e : w.heap[w.heap.size + 1]? = none := by simp
    unfold World.frozen?
    simp [e]
theorem RB.step {w0 w w' : World} {S R : Nat} {h : Int} (g : RB w0 w S R h) (hb : Below w.heap.size w w') : RB w0 w' S R h := by
  have h1 := g.oR
  have h2 := g.lt
  exact {
    below := g.below.trans (hb.mono g.below.size)
    oS := g.oS
    oR := h1
    lt := Nat.lt_of_lt_of_le h2 hb.size
    s0 := by rw [hb.cell (p := ⟨S, 0, none⟩) (by show S < _; omega)]; exact g.s0
    c0 := by rw [hb.cell (p := ⟨R, 0, none⟩) h2]; exact g.c0
    c1 := by rw [hb.cell (p := ⟨R, 1, none⟩) h2]; exact g.c1
    c2 := by rw [hb.cell (p := ⟨R, 2, none⟩) h2]; exact g.c2
    c3 := by rw [hb.cell (p := ⟨R, 3, none⟩) h2]; exact g.c3
    c4 := by rw [hb.cell (p := ⟨R, 4, none⟩) h2]; exact g.c4
    f := fun i => by rw [hb.frozen (p := ⟨R, i, none⟩) h2]; exact g.f i }
theorem RB.bad {w0 w : World} {S R : Nat} {h : Int} (g : RB w0 w S R h) (c : Int) :
    (((((w.setCell ⟨R, 0, none⟩ (.int .i64 c)).setCell ⟨R, 1, none⟩ (.int .i64 0)).setCell ⟨R, 2, none⟩ (.int .i64 0)).setCell ⟨R, 3, none⟩ (.bool false)).setCell ⟨R, 4, none⟩ (.bool false)).cell? ⟨R, 0, none⟩ = some (.int .i64 c) ∧
    (((((w.setCell ⟨R, 0, none⟩ (.int .i64 c)).setCell ⟨R, 1, none⟩ (.int .i64 0)).setCell ⟨R, 2, none⟩ (.int .i64 0)).setCell ⟨R, 3, none⟩ (.bool false)).setCell ⟨R, 4, none⟩ (.bool false)).cell? ⟨R, 1, none⟩ = some (.int .i64 0) ∧
    (((((w.setCell ⟨R, 0, none⟩ (.int .i64 c)).setCell ⟨R, 1, none⟩ (.int .i64 0)).setCell ⟨R, 2, none⟩ (.int .i64 0)).setCell ⟨R, 3, none⟩ (.bool false)).setCell ⟨R, 4, none⟩ (.bool false)).cell? ⟨R, 2, none⟩ = some (.int .i64 0) ∧
    (((((w.setCell ⟨R, 0, none⟩ (.int .i64 c)).setCell ⟨R, 1, none⟩ (.int .i64 0)).setCell ⟨R, 2, none⟩ (.int .i64 0)).setCell ⟨R, 3, none⟩ (.bool false)).setCell ⟨R, 4, none⟩ (.bool false)).cell? ⟨R, 3, none⟩ = some (.bool false) ∧
    (((((w.setCell ⟨R, 0, none⟩ (.int .i64 c)).setCell ⟨R, 1, none⟩ (.int .i64 0)).setCell ⟨R, 2, none⟩ (.int .i64 0)).setCell ⟨R, 3, none⟩ (.bool false)).setCell ⟨R, 4, none⟩ (.bool false)).cell? ⟨R, 4, none⟩ = some (.bool false) ∧
    Below w0.heap.size w0 (((((w.setCell ⟨R, 0, none⟩ (.int .i64 c)).setCell ⟨R, 1, none⟩ (.int .i64 0)).setCell ⟨R, 2, none⟩ (.int .i64 0)).setCell ⟨R, 3, none⟩ (.bool false)).setCell ⟨R, 4, none⟩ (.bool false)) := by
  have hR : w0.heap.size ≤ R := Nat.le_trans g.oS (Nat.le_of_lt g.oR)
  refine ⟨?_, ?_, ?_, ?_, ?_, ?_⟩
  · repeat refine cell_set_ne ?_ (by omega)
    exact cell_set_eq g.c0
  · repeat refine cell_set_ne ?_ (by omega)
    exact cell_set_eq (cell_set_ne g.c1 (by omega))
  · refine cell_set_ne (cell_set_ne (cell_set_eq (v := .int .i64 0) ?_) (by omega)) (by omega)
    repeat refine cell_set_ne ?_ (by omega)
    exact g.c2
  · refine cell_set_ne (cell_set_eq (v := .bool false) ?_) (by omega)
    repeat refine cell_set_ne ?_ (by omega)
    exact g.c3
  · refine cell_set_eq (v := .bool false) ?_
    repeat refine cell_set_ne ?_ (by omega)
    exact g.c4
  · exact ((((g.below.setCell (p := ⟨R, 0, none⟩) hR _).setCell (p := ⟨R, 1, none⟩) hR _).setCell (p := ⟨R, 2, none⟩) hR _).setCell (p := ⟨R, 3, none⟩) hR _).setCell (p := ⟨R, 4, none⟩) hR _
/-- the two results of a function that tells a number and an error -/
theorem results_bad {fn : Func} {u p : Tmp} (h : fn.results = #[.tmp u, .cell p 44]) (tmps : Array Value) (w : World) (R : Nat) (c : Int) (v : Value) (hu : tmps[u]?.getD undef = v) (hp : tmps[p]?.getD undef = .pointer (some ⟨R, 0, none⟩))
    (z0 : w.cell? ⟨R, 0, none⟩ = some (.int .i64 c)) (z1 : w.cell? ⟨R, 1, none⟩ = some (.int .i64 0)) (z2 : w.cell? ⟨R, 2, none⟩ = some (.int .i64 0)) (z3 : w.cell? ⟨R, 3, none⟩ = some (.bool false)) (z4 : w.cell? ⟨R, 4, none⟩ = some (.bool false)) :
    (results fn tmps).run Tryd.prog w = .ok (.tuple #[v, badV c]) w := by
  simp [results, h, go_sem, hp, hu, z0, z1, z2, z3, z4, badV]
theorem RB.bad2 {w0 w : World} {S R : Nat} {h : Int} (g : RB w0 w S R h) (c : Int) (cs : Array Value) (T : Nat) : ∃ w', w' = (((((w.setCell ⟨R, 0, none⟩ (.int .i64 c)).setCell ⟨R, 1, none⟩ (.int .i64 0)).setCell ⟨R, 2, none⟩ (.int .i64 0)).setCell ⟨R, 3, none⟩ (.bool false)).setCell ⟨R, 4, none⟩ (.bool false)).alloc (.cells cs T) ∧
    w'.cell? ⟨R, 0, none⟩ = some (.int .i64 c) ∧ w'.cell? ⟨R, 1, none⟩ = some (.int .i64 0) ∧ w'.cell? ⟨R, 2, none⟩ = some (.int .i64 0) ∧ w'.cell? ⟨R, 3, none⟩ = some (.bool false) ∧ w'.cell? ⟨R, 4, none⟩ = some (.bool false) ∧ Below w0.heap.size w0 w' := by
  obtain ⟨z0, z1, z2, z3, z4, zb⟩ := g.bad c
  have hl := g.lt
  refine ⟨_, rfl, ?_⟩
  generalize hW : ((((w.setCell ⟨R, 0, none⟩ (.int .i64 c)).setCell ⟨R, 1, none⟩ (.int .i64 0)).setCell ⟨R, 2, none⟩ (.int .i64 0)).setCell ⟨R, 3, none⟩ (.bool false)).setCell ⟨R, 4, none⟩ (.bool false) = W at *
  have hs : W.heap.size = w.heap.size := by rw [← hW]; simp only [size_set]
  refine ⟨?_, ?_, ?_, ?_, ?_, zb.trans ((below1 _ _).mono zb.size)⟩
  all_goals (rw [World.cell?_alloc_lt _ _ _ (by rw [hs]; exact hl)]; assumption)
attribute [local go_sem] u64_signed
set_option maxHeartbeats 4000000 in
set_option maxRecDepth 100000 in
theorem rratio_any (h l n : Int) (w : World) (hs : SumW h l) (hn : I64 n) (hz : n ≠ 0) :
    Calls Tryd.prog 45 #[.agg #[.int .i64 h, .int .u64 l], .int .i64 n] w fun e w' => e = .returned (.tuple #[.int .i64 (fitN (floorZ (sZ h l) n)), badV (fitC (floorZ (sZ h l) n))]) ∧ Below w.heap.size w w' := by
  have z0 : (n == 0) = false := by simpa using hz
  obtain ⟨a0, a1, b0, b1, _⟩ := abs_val h l hs
  obtain ⟨d0, d1⟩ := absN_pos n hn hz
  obtain ⟨d, hd⟩ : ∃ d, d = absN n := ⟨_, rfl⟩
  obtain ⟨q, hq⟩ : ∃ q, q = (absHi h l * 18446744073709551616 + absLo h l) / d := ⟨_, rfl⟩
  obtain ⟨r, hr⟩ : ∃ r, r = (absHi h l * 18446744073709551616 + absLo h l) % d := ⟨_, rfl⟩
  obtain ⟨q0, q1, r0, r1, k1, k2⟩ := ratio_floor h l n _ d q r hs hn hz ⟨rfl, hd, hq, hr⟩
  rw [← hd] at d0 d1
  have p1 := fun w => divided_any (absHi h l) (absLo h l) d w a0 (by omega) b0 b1 (by omega) d1
  rw [← hq, ← hr] at p1
  have pn : n < 0 → IntKind.u64.wrap (-IntKind.u64.wrap n) = d := fun hneg => by
    rw [hd]; unfold absN; rw [if_pos hneg, IntKind.wrap_u64, IntKind.wrap_u64]; have := hn.lo; omega
  have pp : ¬ n < 0 → IntKind.u64.wrap n = d := fun hneg => by
    rw [hd]; unfold absN; rw [if_neg hneg, IntKind.wrap_u64]; have := hn.hi; omega
  have K1 := Lib.hid k1
  have K2 := Lib.hid k2
  have HS := Lib.hid hs
  have q1 : q ≤ 170141183460469231750134047789593657344 + 18446744073709551616 := by omega
  clear k1 k2 hs hn hq hr a0 a1 b0 b1 d0 d1 hd
  generalize hAH : absHi h l = ah at *
  generalize hAL : absLo h l = al at *
  have P1 := Lib.hid hAH
  have P2 := Lib.hid hAL
  clear hAH hAL
  have hsz := fun w => rsize_any h l w HS.out
  rw [P1.out, P2.out] at hsz
  go_enter Tryd.func45, Tryd.ntmps45
  go_wp2_with fail
  refine (hsz _).mono ?_; rintro e w1 ⟨rfl, h1⟩
  have I := (RB.alloc w h l 38 44).step h1
  have HI := Lib.hid I
  clear I h1
  generalize hR : w.heap.size + 1 = R at *
  generalize hS : w.heap.size = S at *
  clear hR hS
  obtain ⟨qh, hqh⟩ : ∃ x, x = q / 18446744073709551616 := ⟨_, rfl⟩
  obtain ⟨ql, hql⟩ : ∃ x, x = q % 18446744073709551616 := ⟨_, rfl⟩
  rw [← hqh, ← hql] at p1
  have HQH := Lib.hid hqh
  have HQL := Lib.hid hql
  clear hqh hql
  by_cases hn0 : n < 0
  · have pn' := pn (by omega)
    clear pn pp
    go_wp2_with fail
    refine (p1 _).mono ?_; rintro e w2 ⟨rfl, h2⟩
    have HJ := Lib.hid (HI.out.step h2)
    clear HI h2 p1 hsz
    have s0 := HJ.out.s0
    have c0 := HJ.out.c0
    have c1 := HJ.out.c1
    have c2 := HJ.out.c2
    have c3 := HJ.out.c3
    have c4 := HJ.out.c4
    have cf := HJ.out.f
    have oR := HJ.out.oR
    have oS := HJ.out.oS
    have olt := HJ.out.lt
    clear q1
    by_cases hh : h < 0
    · have dn : decide (n < 0) = true := by simp; omega
      have dh : decide (h < 0) = true := by simp; omega
      have E : Hid (floorZ (sZ h l) n = q) := Lib.hid (K1.out (by unfold isNeg; simp [hh, hn0]))
      clear K1 K2
      by_cases hb : q ≤ 9223372036854775807
      · have e1 : qh = 0 := by rw [HQH.out]; omega
        have e2 : ql = q := by rw [HQL.out]; omega
        subst e1 e2
        go_wp2
        all_goals (
          obtain ⟨z0, z1, z2, z3, z4, zb⟩ := HJ.out.bad 0
          
          refine bodyPost_ret (results_bad rfl _ _ R 0 (.int .i64 (ql)) rfl rfl z0 z1 z2 z3 z4) rfl ⟨?_, zb⟩
          rw [(fit_yes (by rw [E.out]; unfold Fits; omega)).1, (fit_yes (by rw [E.out]; unfold Fits; omega)).2, E.out])
      · have e1 : 0 < qh ∨ qh = 0 ∧ 9223372036854775807 < ql := by rw [HQH.out, HQL.out]; omega
        rcases e1 with e1 | ⟨rfl, e1⟩
        · go_wp2_with (go_at_call 51; refine (badnew_x _ _).mono ?_; rintro e w' ⟨rfl, rfl⟩)
          all_goals (
            obtain ⟨w9, hw9, z0, z1, z2, z3, z4, zb⟩ := HJ.out.bad2 20 #[.int .i64 20, .int .i64 0, .int .i64 0, .bool false, .bool false] 44
            rw [← hw9]
            refine bodyPost_ret (results_bad rfl _ _ R 20 (.int .i64 (0)) rfl rfl z0 z1 z2 z3 z4) rfl ⟨?_, zb⟩
            rw [(fit_no (by rw [E.out]; unfold Fits; omega)).1, (fit_no (by rw [E.out]; unfold Fits; omega)).2])
        · go_wp2_with (go_at_call 51; refine (badnew_x _ _).mono ?_; rintro e w' ⟨rfl, rfl⟩)
          all_goals (
            obtain ⟨w9, hw9, z0, z1, z2, z3, z4, zb⟩ := HJ.out.bad2 20 #[.int .i64 20, .int .i64 0, .int .i64 0, .bool false, .bool false] 44
            rw [← hw9]
            refine bodyPost_ret (results_bad rfl _ _ R 20 (.int .i64 (0)) rfl rfl z0 z1 z2 z3 z4) rfl ⟨?_, zb⟩
            rw [(fit_no (by rw [E.out]; unfold Fits; omega)).1, (fit_no (by rw [E.out]; unfold Fits; omega)).2])
    · have dn : decide (n < 0) = true := by simp; omega
      have dh : decide (h < 0) = false := by simp; omega
      have E : Hid (floorZ (sZ h l) n = if r = 0 then -q else -(q + 1)) := Lib.hid (K2.out (by unfold isNeg; simp [hh, hn0]))
      clear K1 K2
      by_cases hr0 : r = 0
      · have E' : Hid (floorZ (sZ h l) n = -q) := Lib.hid (by rw [E.out, if_pos hr0])
        clear E
        have E := E'
        clear E'
        subst hr0
        by_cases hb : q ≤ 9223372036854775808
        · have e1 : qh = 0 := by rw [HQH.out]; omega
          have e2 : ql = q := by rw [HQL.out]; omega
          subst e1 e2
          have wn : IntKind.i64.wrap (IntKind.u64.wrap (-ql)) = -ql := by rw [IntWalk.i64_left, IntKind.wrap_u64]; unfold wrap64; omega
          have wn' : wrap64 (IntKind.u64.wrap (-ql)) = -ql := by rw [IntKind.wrap_u64]; unfold wrap64; omega
          go_wp2
          all_goals (
            obtain ⟨z0, z1, z2, z3, z4, zb⟩ := HJ.out.bad 0
            
            refine bodyPost_ret (results_bad rfl _ _ R 0 (.int .i64 (-ql)) rfl rfl z0 z1 z2 z3 z4) rfl ⟨?_, zb⟩
            rw [(fit_yes (by rw [E.out]; unfold Fits; omega)).1, (fit_yes (by rw [E.out]; unfold Fits; omega)).2, E.out])
        · have e1 : 0 < qh ∨ qh = 0 ∧ 9223372036854775808 < ql := by rw [HQH.out, HQL.out]; omega
          rcases e1 with e1 | ⟨rfl, e1⟩
          · go_wp2_with (go_at_call 51; refine (badnew_x _ _).mono ?_; rintro e w' ⟨rfl, rfl⟩)
            all_goals (
              obtain ⟨w9, hw9, z0, z1, z2, z3, z4, zb⟩ := HJ.out.bad2 20 #[.int .i64 20, .int .i64 0, .int .i64 0, .bool false, .bool false] 44
              rw [← hw9]
              refine bodyPost_ret (results_bad rfl _ _ R 20 (.int .i64 (0)) rfl rfl z0 z1 z2 z3 z4) rfl ⟨?_, zb⟩
              rw [(fit_no (by rw [E.out]; unfold Fits; omega)).1, (fit_no (by rw [E.out]; unfold Fits; omega)).2])
          · go_wp2_with (go_at_call 51; refine (badnew_x _ _).mono ?_; rintro e w' ⟨rfl, rfl⟩)
            all_goals (
              obtain ⟨w9, hw9, z0, z1, z2, z3, z4, zb⟩ := HJ.out.bad2 20 #[.int .i64 20, .int .i64 0, .int .i64 0, .bool false, .bool false] 44
              rw [← hw9]
              refine bodyPost_ret (results_bad rfl _ _ R 20 (.int .i64 (0)) rfl rfl z0 z1 z2 z3 z4) rfl ⟨?_, zb⟩
              rw [(fit_no (by rw [E.out]; unfold Fits; omega)).1, (fit_no (by rw [E.out]; unfold Fits; omega)).2])
      · have E' : Hid (floorZ (sZ h l) n = -(q + 1)) := Lib.hid (by rw [E.out, if_neg hr0])
        clear E
        have E := E'
        clear E'
        have hr1 : 0 < r := by omega
        by_cases hb : q + 1 ≤ 9223372036854775808
        · have e1 : qh = 0 := by rw [HQH.out]; omega
          have e2 : ql = q := by rw [HQL.out]; omega
          subst e1 e2
          have w1' : IntKind.u64.wrap (ql + 1) = ql + 1 := by rw [IntKind.wrap_u64]; omega
          have z1' : (ql + 1 == 0) = false := by simp; omega
          have wn : IntKind.i64.wrap (IntKind.u64.wrap (-(ql + 1))) = -(ql + 1) := by rw [IntWalk.i64_left, IntKind.wrap_u64]; unfold wrap64; omega
          have wn' : wrap64 (IntKind.u64.wrap (-(ql + 1))) = -(ql + 1) := by rw [IntKind.wrap_u64]; unfold wrap64; omega
          go_wp2
          all_goals (
            obtain ⟨z0, z1, z2, z3, z4, zb⟩ := HJ.out.bad 0
            
            refine bodyPost_ret (results_bad rfl _ _ R 0 (.int .i64 (-(ql + 1))) rfl rfl z0 z1 z2 z3 z4) rfl ⟨?_, zb⟩
            rw [(fit_yes (by rw [E.out]; unfold Fits; omega)).1, (fit_yes (by rw [E.out]; unfold Fits; omega)).2, E.out])
        · obtain ⟨x, hx⟩ : ∃ x, IntKind.u64.wrap (ql + 1) = x := ⟨_, rfl⟩
          have hxv := hx
          rw [IntKind.wrap_u64] at hxv
          by_cases hx0 : x = 0
          · subst hx0
            have q3 : qh + 1 < 18446744073709551616 ∧ 0 ≤ qh := by rw [HQH.out]; have := HQL.out; omega
            have w2' : IntKind.u64.wrap (qh + 1) = qh + 1 := by rw [IntKind.wrap_u64]; omega
            have w3' : 0 < qh + 1 := by omega
            clear hxv
            go_wp2_with (go_at_call 51; refine (badnew_x _ _).mono ?_; rintro e w' ⟨rfl, rfl⟩)
            all_goals (
              obtain ⟨w9, hw9, z0, z1, z2, z3, z4, zb⟩ := HJ.out.bad2 20 #[.int .i64 20, .int .i64 0, .int .i64 0, .bool false, .bool false] 44
              rw [← hw9]
              refine bodyPost_ret (results_bad rfl _ _ R 20 (.int .i64 (0)) rfl rfl z0 z1 z2 z3 z4) rfl ⟨?_, zb⟩
              rw [(fit_no (by rw [E.out]; unfold Fits; omega)).1, (fit_no (by rw [E.out]; unfold Fits; omega)).2])
          · have z1' : (x == 0) = false := by simpa using hx0
            have e1 : 0 < qh ∨ qh = 0 ∧ 9223372036854775808 < x := by rw [HQH.out]; have := HQL.out; omega
            clear hxv
            rcases e1 with e1 | ⟨rfl, e1⟩
            · go_wp2_with (go_at_call 51; refine (badnew_x _ _).mono ?_; rintro e w' ⟨rfl, rfl⟩)
              all_goals (
                obtain ⟨w9, hw9, z0, z1, z2, z3, z4, zb⟩ := HJ.out.bad2 20 #[.int .i64 20, .int .i64 0, .int .i64 0, .bool false, .bool false] 44
                rw [← hw9]
                refine bodyPost_ret (results_bad rfl _ _ R 20 (.int .i64 (0)) rfl rfl z0 z1 z2 z3 z4) rfl ⟨?_, zb⟩
                rw [(fit_no (by rw [E.out]; unfold Fits; omega)).1, (fit_no (by rw [E.out]; unfold Fits; omega)).2])
            · go_wp2_with (go_at_call 51; refine (badnew_x _ _).mono ?_; rintro e w' ⟨rfl, rfl⟩)
              all_goals (
                obtain ⟨w9, hw9, z0, z1, z2, z3, z4, zb⟩ := HJ.out.bad2 20 #[.int .i64 20, .int .i64 0, .int .i64 0, .bool false, .bool false] 44
                rw [← hw9]
                refine bodyPost_ret (results_bad rfl _ _ R 20 (.int .i64 (0)) rfl rfl z0 z1 z2 z3 z4) rfl ⟨?_, zb⟩
                rw [(fit_no (by rw [E.out]; unfold Fits; omega)).1, (fit_no (by rw [E.out]; unfold Fits; omega)).2])
  · have pp' := pp (by omega)
    clear pn pp
    go_wp2_with fail
    refine (p1 _).mono ?_; rintro e w2 ⟨rfl, h2⟩
    have HJ := Lib.hid (HI.out.step h2)
    clear HI h2 p1 hsz
    have s0 := HJ.out.s0
    have c0 := HJ.out.c0
    have c1 := HJ.out.c1
    have c2 := HJ.out.c2
    have c3 := HJ.out.c3
    have c4 := HJ.out.c4
    have cf := HJ.out.f
    have oR := HJ.out.oR
    have oS := HJ.out.oS
    have olt := HJ.out.lt
    clear q1
    by_cases hh : h < 0
    · have dn : decide (n < 0) = false := by simp; omega
      have dh : decide (h < 0) = true := by simp; omega
      have E : Hid (floorZ (sZ h l) n = if r = 0 then -q else -(q + 1)) := Lib.hid (K2.out (by unfold isNeg; simp [hh, hn0]))
      clear K1 K2
      by_cases hr0 : r = 0
      · have E' : Hid (floorZ (sZ h l) n = -q) := Lib.hid (by rw [E.out, if_pos hr0])
        clear E
        have E := E'
        clear E'
        subst hr0
        by_cases hb : q ≤ 9223372036854775808
        · have e1 : qh = 0 := by rw [HQH.out]; omega
          have e2 : ql = q := by rw [HQL.out]; omega
          subst e1 e2
          have wn : IntKind.i64.wrap (IntKind.u64.wrap (-ql)) = -ql := by rw [IntWalk.i64_left, IntKind.wrap_u64]; unfold wrap64; omega
          have wn' : wrap64 (IntKind.u64.wrap (-ql)) = -ql := by rw [IntKind.wrap_u64]; unfold wrap64; omega
          go_wp2
          all_goals (
            obtain ⟨z0, z1, z2, z3, z4, zb⟩ := HJ.out.bad 0
            
            refine bodyPost_ret (results_bad rfl _ _ R 0 (.int .i64 (-ql)) rfl rfl z0 z1 z2 z3 z4) rfl ⟨?_, zb⟩
            rw [(fit_yes (by rw [E.out]; unfold Fits; omega)).1, (fit_yes (by rw [E.out]; unfold Fits; omega)).2, E.out])
        · have e1 : 0 < qh ∨ qh = 0 ∧ 9223372036854775808 < ql := by rw [HQH.out, HQL.out]; omega
          rcases e1 with e1 | ⟨rfl, e1⟩
          · go_wp2_with (go_at_call 51; refine (badnew_x _ _).mono ?_; rintro e w' ⟨rfl, rfl⟩)
            all_goals (
              obtain ⟨w9, hw9, z0, z1, z2, z3, z4, zb⟩ := HJ.out.bad2 20 #[.int .i64 20, .int .i64 0, .int .i64 0, .bool false, .bool false] 44
              rw [← hw9]
              refine bodyPost_ret (results_bad rfl _ _ R 20 (.int .i64 (0)) rfl rfl z0 z1 z2 z3 z4) rfl ⟨?_, zb⟩
              rw [(fit_no (by rw [E.out]; unfold Fits; omega)).1, (fit_no (by rw [E.out]; unfold Fits; omega)).2])
          · go_wp2_with (go_at_call 51; refine (badnew_x _ _).mono ?_; rintro e w' ⟨rfl, rfl⟩)
            all_goals (
              obtain ⟨w9, hw9, z0, z1, z2, z3, z4, zb⟩ := HJ.out.bad2 20 #[.int .i64 20, .int .i64 0, .int .i64 0, .bool false, .bool false] 44
              rw [← hw9]
              refine bodyPost_ret (results_bad rfl _ _ R 20 (.int .i64 (0)) rfl rfl z0 z1 z2 z3 z4) rfl ⟨?_, zb⟩
              rw [(fit_no (by rw [E.out]; unfold Fits; omega)).1, (fit_no (by rw [E.out]; unfold Fits; omega)).2])
      · have E' : Hid (floorZ (sZ h l) n = -(q + 1)) := Lib.hid (by rw [E.out, if_neg hr0])
        clear E
        have E := E'
        clear E'
        have hr1 : 0 < r := by omega
        by_cases hb : q + 1 ≤ 9223372036854775808
        · have e1 : qh = 0 := by rw [HQH.out]; omega
          have e2 : ql = q := by rw [HQL.out]; omega
          subst e1 e2
          have w1' : IntKind.u64.wrap (ql + 1) = ql + 1 := by rw [IntKind.wrap_u64]; omega
          have z1' : (ql + 1 == 0) = false := by simp; omega
          have wn : IntKind.i64.wrap (IntKind.u64.wrap (-(ql + 1))) = -(ql + 1) := by rw [IntWalk.i64_left, IntKind.wrap_u64]; unfold wrap64; omega
          have wn' : wrap64 (IntKind.u64.wrap (-(ql + 1))) = -(ql + 1) := by rw [IntKind.wrap_u64]; unfold wrap64; omega
          go_wp2
          all_goals (
            obtain ⟨z0, z1, z2, z3, z4, zb⟩ := HJ.out.bad 0
            
            refine bodyPost_ret (results_bad rfl _ _ R 0 (.int .i64 (-(ql + 1))) rfl rfl z0 z1 z2 z3 z4) rfl ⟨?_, zb⟩
            rw [(fit_yes (by rw [E.out]; unfold Fits; omega)).1, (fit_yes (by rw [E.out]; unfold Fits; omega)).2, E.out])
        · obtain ⟨x, hx⟩ : ∃ x, IntKind.u64.wrap (ql + 1) = x := ⟨_, rfl⟩
          have hxv := hx
          rw [IntKind.wrap_u64] at hxv
          by_cases hx0 : x = 0
          · subst hx0
            have q3 : qh + 1 < 18446744073709551616 ∧ 0 ≤ qh := by rw [HQH.out]; have := HQL.out; omega
            have w2' : IntKind.u64.wrap (qh + 1) = qh + 1 := by rw [IntKind.wrap_u64]; omega
            have w3' : 0 < qh + 1 := by omega
            clear hxv
            go_wp2_with (go_at_call 51; refine (badnew_x _ _).mono ?_; rintro e w' ⟨rfl, rfl⟩)
            all_goals (
              obtain ⟨w9, hw9, z0, z1, z2, z3, z4, zb⟩ := HJ.out.bad2 20 #[.int .i64 20, .int .i64 0, .int .i64 0, .bool false, .bool false] 44
              rw [← hw9]
              refine bodyPost_ret (results_bad rfl _ _ R 20 (.int .i64 (0)) rfl rfl z0 z1 z2 z3 z4) rfl ⟨?_, zb⟩
              rw [(fit_no (by rw [E.out]; unfold Fits; omega)).1, (fit_no (by rw [E.out]; unfold Fits; omega)).2])
          · have z1' : (x == 0) = false := by simpa using hx0
            have e1 : 0 < qh ∨ qh = 0 ∧ 9223372036854775808 < x := by rw [HQH.out]; have := HQL.out; omega
            clear hxv
            rcases e1 with e1 | ⟨rfl, e1⟩
            · go_wp2_with (go_at_call 51; refine (badnew_x _ _).mono ?_; rintro e w' ⟨rfl, rfl⟩)
              all_goals (
                obtain ⟨w9, hw9, z0, z1, z2, z3, z4, zb⟩ := HJ.out.bad2 20 #[.int .i64 20, .int .i64 0, .int .i64 0, .bool false, .bool false] 44
                rw [← hw9]
                refine bodyPost_ret (results_bad rfl _ _ R 20 (.int .i64 (0)) rfl rfl z0 z1 z2 z3 z4) rfl ⟨?_, zb⟩
                rw [(fit_no (by rw [E.out]; unfold Fits; omega)).1, (fit_no (by rw [E.out]; unfold Fits; omega)).2])
            · go_wp2_with (go_at_call 51; refine (badnew_x _ _).mono ?_; rintro e w' ⟨rfl, rfl⟩)
              all_goals (
                obtain ⟨w9, hw9, z0, z1, z2, z3, z4, zb⟩ := HJ.out.bad2 20 #[.int .i64 20, .int .i64 0, .int .i64 0, .bool false, .bool false] 44
                rw [← hw9]
                refine bodyPost_ret (results_bad rfl _ _ R 20 (.int .i64 (0)) rfl rfl z0 z1 z2 z3 z4) rfl ⟨?_, zb⟩
                rw [(fit_no (by rw [E.out]; unfold Fits; omega)).1, (fit_no (by rw [E.out]; unfold Fits; omega)).2])
    · have dn : decide (n < 0) = false := by simp; omega
      have dh : decide (h < 0) = false := by simp; omega
      have E : Hid (floorZ (sZ h l) n = q) := Lib.hid (K1.out (by unfold isNeg; simp [hh, hn0]))
      clear K1 K2
      by_cases hb : q ≤ 9223372036854775807
      · have e1 : qh = 0 := by rw [HQH.out]; omega
        have e2 : ql = q := by rw [HQL.out]; omega
        subst e1 e2
        go_wp2
        all_goals (
          obtain ⟨z0, z1, z2, z3, z4, zb⟩ := HJ.out.bad 0
          
          refine bodyPost_ret (results_bad rfl _ _ R 0 (.int .i64 (ql)) rfl rfl z0 z1 z2 z3 z4) rfl ⟨?_, zb⟩
          rw [(fit_yes (by rw [E.out]; unfold Fits; omega)).1, (fit_yes (by rw [E.out]; unfold Fits; omega)).2, E.out])
      · have e1 : 0 < qh ∨ qh = 0 ∧ 9223372036854775807 < ql := by rw [HQH.out, HQL.out]; omega
        rcases e1 with e1 | ⟨rfl, e1⟩
        · go_wp2_with (go_at_call 51; refine (badnew_x _ _).mono ?_; rintro e w' ⟨rfl, rfl⟩)
          all_goals (
            obtain ⟨w9, hw9, z0, z1, z2, z3, z4, zb⟩ := HJ.out.bad2 20 #[.int .i64 20, .int .i64 0, .int .i64 0, .bool false, .bool false] 44
            rw [← hw9]
            refine bodyPost_ret (results_bad rfl _ _ R 20 (.int .i64 (0)) rfl rfl z0 z1 z2 z3 z4) rfl ⟨?_, zb⟩
            rw [(fit_no (by rw [E.out]; unfold Fits; omega)).1, (fit_no (by rw [E.out]; unfold Fits; omega)).2])
        · go_wp2_with (go_at_call 51; refine (badnew_x _ _).mono ?_; rintro e w' ⟨rfl, rfl⟩)
          all_goals (
            obtain ⟨w9, hw9, z0, z1, z2, z3, z4, zb⟩ := HJ.out.bad2 20 #[.int .i64 20, .int .i64 0, .int .i64 0, .bool false, .bool false] 44
            rw [← hw9]
            refine bodyPost_ret (results_bad rfl _ _ R 20 (.int .i64 (0)) rfl rfl z0 z1 z2 z3 z4) rfl ⟨?_, zb⟩
            rw [(fit_no (by rw [E.out]; unfold Fits; omega)).1, (fit_no (by rw [E.out]; unfold Fits; omega)).2])
end Go.Proofs.YtpjlikgognhjpaaDoor
