/- The walk of the statement NumSums. Condition: errors.errorType holds the handle of the type error. -/
import Derived.Test.YtpjlikgognhjpaaDoorNumPn
import Derived.Test.YtpjlikgognhjpaaDoorNumRb
import Derived.Test.YtpjlikgognhjpaaDoorNumReck
import Derived.Lib.QuietBelow
set_option linter.unusedSimpArgs false
set_option linter.unusedVariables false
namespace Go.Proofs.YtpjlikgognhjpaaDoor
open Go.RowKit
open Classical in
noncomputable def smN (h l : Int) : Int := if SmallFits h l then wrap64 l else 0
open Classical in
noncomputable def smC (h l : Int) : Int := if SmallFits h l then 0 else 20
theorem smC_nn (h l : Int) : 0 ≤ smC h l := by unfold smC; split <;> omega
theorem small_all (h l : Int) (w : World) (hs : SumW h l) :
    Calls Tryd.prog 43 #[.agg #[.int .i64 h, .int .u64 l]] w fun e w' => e = .returned (.tuple #[.int .i64 (smN h l), eV (smC h l)]) ∧ Below w.heap.size w w' := by
  unfold smN smC
  by_cases hf : SmallFits h l
  · rw [if_pos hf, if_pos hf]; exact small_ok h l w hs.l0 hs.l1 hf
  · rw [if_neg hf, if_neg hf]; exact small_over h l w hs.l0 hs.l1 hf
theorem rsmall_all (h l : Int) (w : World) (hs : SumW h l) :
    Calls Tryd.prog 44 #[.agg #[.int .i64 h, .int .u64 l]] w fun e w' => e = .returned (.tuple #[.int .i64 (smN h l), badV (smC h l)]) ∧ Below w.heap.size w w' := by
  unfold smN smC
  by_cases hf : SmallFits h l
  · rw [if_pos hf, if_pos hf]; exact rsmall_ok h l w hs.l0 hs.l1 hf
  · rw [if_neg hf, if_neg hf]; exact rsmall_over h l w hs.l0 hs.l1 hf
noncomputable def raN (h l n : Int) : Int := if n = 0 then 0 else fitN (floorZ (sZ h l) n)
noncomputable def raC (h l n : Int) : Int := if n = 0 then 21 else fitC (floorZ (sZ h l) n)
theorem raC_nn (h l n : Int) : 0 ≤ raC h l n := by unfold raC; split; · omega
                                                   · exact fitC_nn _
theorem ratio_all (h l n : Int) (w : World) (hs : SumW h l) (hn : I64 n) :
    Calls Tryd.prog 34 #[.agg #[.int .i64 h, .int .u64 l], .int .i64 n] w fun e w' => e = .returned (.tuple #[.int .i64 (raN h l n), eV (raC h l n)]) ∧ Below w.heap.size w w' := by
  unfold raN raC
  by_cases hz : n = 0
  · rw [if_pos hz, if_pos hz]; subst hz; exact ratio_zero h l w
  · rw [if_neg hz, if_neg hz]; exact ratio_any h l n w hs hn hz
theorem rratio_all (h l n : Int) (w : World) (hs : SumW h l) (hn : I64 n) :
    Calls Tryd.prog 45 #[.agg #[.int .i64 h, .int .u64 l], .int .i64 n] w fun e w' => e = .returned (.tuple #[.int .i64 (raN h l n), badV (raC h l n)]) ∧ Below w.heap.size w w' := by
  unfold raN raC
  by_cases hz : n = 0
  · rw [if_pos hz, if_pos hz]; subst hz; exact rratio_zero h l w
  · rw [if_neg hz, if_neg hz]; exact rratio_any h l n w hs hn hz
set_option maxHeartbeats 4000000 in
set_option maxRecDepth 100000 in
theorem sums_any (h l h' l' n : Int) (w : World) (hG : Glob w) (hs : SumW h l) (ho : SumW h' l') (hn : I64 n) :
    Calls Tryd.prog 11 #[.agg #[.int .i64 h, .int .u64 l], .agg #[.int .i64 h', .int .u64 l'], .int .i64 n] w fun e w' => e = .returned (.bool true) ∧ Below w.heap.size w w' := by
  have k1 := fun w => plus_any h l n hs.l0 hs.l1 w
  have k2 := fun w => rplus_any h l n hs hn w
  have k3 := fun w => minus_any h l n hs.l0 hs.l1 w
  have k4 := fun w => rminus_any h l n hs hn w
  have k5 := fun w => compare_any h l h' l' w
  have k6 := fun w => rcompare_any h l h' l' w
  have k7 := fun w => compare_any h l h l w
  have k8 := fun w => print_any h l w hs
  have k9 := fun w => rprint_any h l w hs
  have ks := fun w => small_all h l w hs
  have krs := fun w => rsmall_all h l w hs
  have kr := fun w => ratio_all h l n w hs hn
  have krr := fun w => rratio_all h l n w hs hn
  rw [if_pos ⟨rfl, rfl⟩] at k7
  generalize (if h = h' ∧ l = l' then (0 : Int) else if h < h' ∨ h = h' ∧ l < l' then -1 else 1) = cc at *
  generalize plusHi h l n = ph at *
  generalize plusLo l n = pl at *
  generalize minusHi h l n = mh at *
  generalize minusLo l n = ml at *
  generalize printL (sZ h l) = pr at *
  have hsc := smC_nn h l
  have hrc := raC_nn h l n
  generalize smN h l = sn at *
  generalize smC h l = sc at *
  generalize raN h l n = rn at *
  generalize raC h l n = rc at *
  unfold strV at k8 k9
  clear hs ho hn
  go_enter Tryd.func11, Tryd.ntmps11
  go_wp2_with fail
  have hb0 : Below w.heap.size w ((w.alloc (.cells #[.int .i64 h, .int .u64 l] 38)).alloc (.cells #[.int .i64 h', .int .u64 l'] 38)) := below2 _ _ _
  have Gb := hG.below hb0 hG.lt
  have s0 : ((w.alloc (.cells #[.int .i64 h, .int .u64 l] 38)).alloc (.cells #[.int .i64 h', .int .u64 l'] 38)).cell? ⟨w.heap.size, 0, none⟩ = some (.int .i64 h) := by
    rw [World.cell?_alloc_lt _ _ _ (by simp only [heap_push, Array.size_push]; omega), World.cell?_alloc_at _ _ _ _ rfl]; rfl
  have s1 : ((w.alloc (.cells #[.int .i64 h, .int .u64 l] 38)).alloc (.cells #[.int .i64 h', .int .u64 l'] 38)).cell? ⟨w.heap.size, 1, none⟩ = some (.int .u64 l) := by
    rw [World.cell?_alloc_lt _ _ _ (by simp only [heap_push, Array.size_push]; omega), World.cell?_alloc_at _ _ _ _ rfl]; rfl
  have o0 : ((w.alloc (.cells #[.int .i64 h, .int .u64 l] 38)).alloc (.cells #[.int .i64 h', .int .u64 l'] 38)).cell? ⟨w.heap.size + 1, 0, none⟩ = some (.int .i64 h') := by
    rw [World.cell?_alloc_at _ _ _ _ (by simp only [heap_push, Array.size_push])]; rfl
  have o1 : ((w.alloc (.cells #[.int .i64 h, .int .u64 l] 38)).alloc (.cells #[.int .i64 h', .int .u64 l'] 38)).cell? ⟨w.heap.size + 1, 1, none⟩ = some (.int .u64 l') := by
    rw [World.cell?_alloc_at _ _ _ _ (by simp only [heap_push, Array.size_push])]; rfl
  have HB0 := Lib.hid hb0
  clear hb0 hG
  generalize hO : w.heap.size + 1 = O at *
  generalize hS : w.heap.size = S at *
  clear hO
  have HSS := Lib.hid hS
  clear hS
  generalize ((w.alloc (.cells #[.int .i64 h, .int .u64 l] 38)).alloc (.cells #[.int .i64 h', .int .u64 l'] 38)) = wb at *
  refine (live_any _ Gb).mono ?_; rintro e w1 ⟨rfl, h1⟩
  have HC : Hid (wb.cell? ⟨S, 0, none⟩ = some (.int .i64 h) ∧ wb.cell? ⟨S, 1, none⟩ = some (.int .u64 l)) := Lib.hid ⟨s0, s1⟩
  have q0 := cell_regrown (by rw [h1.cell (p := ⟨S, 0, none⟩) (cell_lt s0)]; exact s0 : w1.cell? ⟨S, 0, none⟩ = _)
  have q1 := cell_regrown (by rw [h1.cell (p := ⟨S, 1, none⟩) (cell_lt s1)]; exact s1 : w1.cell? ⟨S, 1, none⟩ = _)
  have q2 := cell_regrown (by rw [h1.cell (p := ⟨O, 0, none⟩) (cell_lt o0)]; exact o0 : w1.cell? ⟨O, 0, none⟩ = _)
  have q3 := cell_regrown (by rw [h1.cell (p := ⟨O, 1, none⟩) (cell_lt o1)]; exact o1 : w1.cell? ⟨O, 1, none⟩ = _)
  clear s0 s1 o0 o1
  go_wp2_with fail
  refine wp_region_quiet_below (by kernel_rfl) (by kernel_rfl) ?_
  repeat (quiet_step (first | (go_at_call 17; exact Calls.regrown_of (k1 _)) | (go_at_call 39; exact Calls.regrown_of (k2 _)) | (go_at_call 19; exact Calls.regrown_of (k3 _)) | (go_at_call 40; exact Calls.regrown_of (k4 _)) | (go_at_call 41; exact Calls.regrown_of (k6 _)) | (go_at_call 38; exact Calls.regrown_of (k8 _)) | (go_at_call 42; exact Calls.regrown_of (k9 _)) | (go_at_call 18; first | (with_reducible exact Calls.regrown_of (k7 _)) | (with_reducible exact Calls.regrown_of (k5 _)))))
  refine wpQuiet_nil ?_
  intro _ hw'
  obtain ⟨⟨dq, osq⟩, hw''⟩ := hw'
  subst hw''
  have h2 := h1.trans ((below_regrown w1 dq osq).mono h1.size)
  generalize Go.Sort.grow (redrawn w1 dq) osq = w2 at *
  clear q0 q1 q2 q3 h1 k1 k2 k3 k4 k5 k6 k7 k8 k9
  have s0 : w2.cell? ⟨S, 0, none⟩ = some (.int .i64 h) := by rw [h2.cell (p := ⟨S, 0, none⟩) (cell_lt HC.out.1)]; exact HC.out.1
  have s1 : w2.cell? ⟨S, 1, none⟩ = some (.int .u64 l) := by rw [h2.cell (p := ⟨S, 1, none⟩) (cell_lt HC.out.2)]; exact HC.out.2
  go_wp2_with fail
  refine (ks _).mono ?_; rintro e w3 ⟨rfl, h3⟩
  have h3' := h2.trans (h3.mono h2.size)
  clear s0 s1 h2 h3 ks
  have s0 : w3.cell? ⟨S, 0, none⟩ = some (.int .i64 h) := by rw [h3'.cell (p := ⟨S, 0, none⟩) (cell_lt HC.out.1)]; exact HC.out.1
  have s1 : w3.cell? ⟨S, 1, none⟩ = some (.int .u64 l) := by rw [h3'.cell (p := ⟨S, 1, none⟩) (cell_lt HC.out.2)]; exact HC.out.2
  go_wp2_with fail
  refine (krs _).mono ?_; rintro e w4 ⟨rfl, h4⟩
  have h4' := h3'.trans (h4.mono h3'.size)
  have G4 := Gb.below h4' Gb.lt
  have I := Inv.alloc (T := 44) Gb G4 h4' (.int .i64 sc) (.int .i64 0) (.int .i64 0) (.bool false) (.bool false)
  clear s0 s1 h3' h4 h4' krs G4
  go_wp2_with fail
  refine (same_any _ _ _ I.glob hsc).mono ?_; rintro e w5 ⟨rfl, h5⟩
  replace I := I.step h5
  clear h5
  generalize hB : w4.heap.size = B at *
  clear hB
  have s0 : w5.cell? ⟨S, 0, none⟩ = some (.int .i64 h) := by rw [I.below.cell (p := ⟨S, 0, none⟩) (cell_lt HC.out.1)]; exact HC.out.1
  have s1 : w5.cell? ⟨S, 1, none⟩ = some (.int .u64 l) := by rw [I.below.cell (p := ⟨S, 1, none⟩) (cell_lt HC.out.2)]; exact HC.out.2
  go_wp2_with fail
  refine (kr _).mono ?_; rintro e w6 ⟨rfl, h6⟩
  replace I := I.step h6
  clear h6 s0 s1 kr
  have s0 : w6.cell? ⟨S, 0, none⟩ = some (.int .i64 h) := by rw [I.below.cell (p := ⟨S, 0, none⟩) (cell_lt HC.out.1)]; exact HC.out.1
  have s1 : w6.cell? ⟨S, 1, none⟩ = some (.int .u64 l) := by rw [I.below.cell (p := ⟨S, 1, none⟩) (cell_lt HC.out.2)]; exact HC.out.2
  go_wp2_with fail
  refine (krr _).mono ?_; rintro e w7 ⟨rfl, h7⟩
  replace I := I.step h7
  clear h7 s0 s1 krr
  have c0 := I.c0; have c1 := I.c1; have c2 := I.c2; have c3 := I.c3; have c4 := I.c4; have f := I.f
  go_wp2_with fail
  clear c0 c1 c2 c3 c4 f
  replace I := I.set (.int .i64 rc) (.int .i64 0) (.int .i64 0) (.bool false) (.bool false)
  refine (same_any _ _ _ I.glob hrc).mono ?_; rintro e w8 ⟨rfl, h8⟩
  replace I := I.step h8
  have hfin : Below w.heap.size w w8 := by
    have hz := HB0.out
    rw [← HSS.out] at hz
    exact hz.trans (I.below.mono hz.size)
  clear h8 I
  go_wp2
  go_ret
  exact ⟨rfl, hfin⟩
end Go.Proofs.YtpjlikgognhjpaaDoor
