/- The document's Sorted: the walk. -/
import Derived.Test.YtlodgmmhaolmaaaDoorRsrt
set_option linter.unusedSimpArgs false
set_option linter.unusedVariables false
namespace Go.Proofs.YtlodgmmhaolmaaaDoor
open Go.RowKit
theorem oneE (r : Int) (s : List UInt8) : ∀ u ∈ [Value.int .i64 r, strV s], u.oneCell' = true := fun u hu => by
  rcases List.mem_cons.1 hu with rfl | hu
  · rfl
  · rcases List.mem_cons.1 hu with rfl | hu
    · rfl
    · cases hu
/-- where e goes -/
theorem place_of (mo : Bool) (O : List Ent) (e : Ent) : ∃ p, p ≤ O.length ∧ (∀ j, j < p → ahE mo (atE O j) e = true) ∧ (p < O.length → ahE mo (atE O p) e = false) := by
  have key : ∀ n, ∃ p, p ≤ n ∧ (∀ j, j < p → ahE mo (atE O j) e = true) ∧ (p < n → ahE mo (atE O p) e = false) := by
    intro n
    induction n with
    | zero => exact ⟨0, Nat.le_refl _, fun j hj => absurd hj (by omega), fun h => absurd h (by omega)⟩
    | succ n ih =>
      obtain ⟨p, h1, h2, h3⟩ := ih
      by_cases hpn : p = n
      · subst hpn
        cases hc : ahE mo (atE O p) e with
        | true => exact ⟨p + 1, Nat.le_refl _, fun j hj => by
            rcases Nat.lt_or_ge j p with h | h
            · exact h2 j h
            · obtain rfl : j = p := by omega
              exact hc, fun h => absurd h (by omega)⟩
        | false => exact ⟨p, by omega, h2, fun _ => hc⟩
      · exact ⟨p, by omega, h2, fun h => h3 (by omega)⟩
  exact key O.length
theorem below_own {B : Nat} {w a b : World} {row : Option Nat} (h : Below B w a) (hg : a.grownBy b row) (hr : ∀ g, row = some g → B ≤ g) (hB : B ≤ a.heap.size) : Below B w b :=
  h.trans ⟨hg.os, hg.tape, hg.output, hg.size, fun k hk => hg.block k (by omega) (fun e => by have := hr k (by rw [e]); omega)⟩
structure ShIn (w wr : World) (O : List Ent) (g cap k j : Nat) (M : List Ent) : Prop where
  b : Below w.heap.size w wr
  own : wr.ownsRow w.heap.size 27 2 (.slice (some ⟨g, 0, none⟩) (k + 1) cap) (k + 1) (entC M)
  sh : Shift O j M
theorem own_put2 {w : World} {S g cap n i : Nat} {M : List Ent} (e : Ent) (h : w.ownsRow S 27 2 (.slice (some ⟨g, 0, none⟩) n cap) n (entC M)) :
    ((w.setCell ⟨g, i * 2, none⟩ (.int .i64 e.1)).setCell ⟨g, i * 2 + 1, none⟩ (strV e.2)).ownsRow S 27 2 (.slice (some ⟨g, 0, none⟩) n cap) n (entC (M.set i e)) := by
  have := ((h.stored (i * 2) (.int .i64 e.1)).1.stored (i * 2 + 1) (strV e.2)).1
  rwa [entC_set] at this
set_option maxHeartbeats 4000000 in
set_option maxRecDepth 100000 in
theorem rsorted_any (mo : Bool) (A : Option Addr) (n cap : Nat) (L : List Ent) (w : World) (hr : EntRow w A n L) (hN : NoTwice L) (hn : n * 24 ≤ 225179981352000) :
    Calls Tryd.prog 71 #[.bool mo, .slice A n cap] w fun e w' => ∃ A' c' S, e = .returned (.slice A' n c') ∧ EntRow w' A' n S ∧ SrtE mo S ∧ S.Perm L ∧ Below w.heap.size w w' ∧ (0 < n → ∃ g, A' = some ⟨g, 0, none⟩ ∧ w.heap.size ≤ g) := by
  obtain ⟨i0, hi, hiz, hi1, hi2⟩ := infoE
  have HI0 : Bx _ := ⟨And.intro hi (And.intro hiz (And.intro hi1 hi2))⟩
  have HR : Bx _ := ⟨And.intro hr hN⟩
  have hlen := hr.len
  have HL : Bx (L.length = n) := ⟨hlen⟩
  clear hi hiz hi1 hi2 hr hN hlen
  go_enter Tryd.func71, Tryd.ntmps71
  go_wp2_with fail
  go_loopw [5, 6] (fun o i wr => ∃ (k : Nat) (O : List Ent), k ≤ n ∧ i = .int .i64 k ∧ Bx (RIn w wr mo L o O k)) (fun _ i _ => n - (intOf i).toNat)
  case atStart => exact ⟨0, [], by omega, rfl, ⟨⟨Below.refl _ _, World.ownsRow_nil _ _ _ _, rfl, List.Pairwise.nil, by simp⟩⟩⟩
  case round =>
    obtain ⟨k, O, hk, rfl, HI⟩ := hrel
    by_cases hlt : k < n
    · rename World => w0
      obtain ⟨Ao, co, rfl, hrO, hfO⟩ := row_of HI.out.own HI.out.len
      obtain ⟨r, hrr⟩ : ∃ r, (atE L k).1 = r := ⟨_, rfl⟩
      obtain ⟨s, hss⟩ : ∃ s, (atE L k).2 = s := ⟨_, rfl⟩
      have HE : Bx (atE L k = (r, s)) := ⟨by rw [← hrr, ← hss]⟩
      obtain ⟨p, hp1, hp2, hp3⟩ := place_of mo O (r, s)
      rw [HI.out.len] at hp1 hp3
      have HO : Bx _ := ⟨And.intro hrO (And.intro hp2 hp3)⟩
      obtain ⟨b, off, rfl, _⟩ := HR.out.1.row (by omega)
      have hall : ∀ x, Below w.heap.size w x → x.cell? ⟨b, off + k * 2, none⟩ = some (.int .i64 r) ∧ x.cell? ⟨b, off + k * 2 + 1, none⟩ = some (strV s) := fun x hx => by
        obtain ⟨_, _, e1, hrow⟩ := (HR.out.1.below hx).row (by omega)
        injection e1 with e1
        injection e1 with e1 e2
        subst e1 e2
        have := hrow k hlt
        rwa [hrr, hss] at this
      have HA : Bx _ := ⟨hall⟩
      clear hrO hp2 hp3 hrr hss hall
      go_wp2_with fail
      go_loopw [7] (fun q wr => ∃ (j : Nat), j ≤ p ∧ q = .int .i64 j ∧ Bx (Below w0.heap.size w0 wr)) (fun q _ => p - (intOf q).toNat)
      case atStart => exact ⟨0, by omega, rfl, ⟨Below.refl _ _⟩⟩
      case round =>
        obtain ⟨j, hj, rfl, HB⟩ := hrel
        have HJ : Bx (RIn w wr mo L (.slice Ao k co) O k) := ⟨HI.out.step HB.out⟩
        by_cases hjk : j < k
        · obtain ⟨b', off', rfl, hrow'⟩ := (HO.out.1.below HB.out).row (by omega)
          obtain ⟨c0, c1⟩ := hrow' j hjk
          obtain ⟨d0, d1⟩ := HA.out wr HJ.out.b
          have ka : ∀ w, Calls Tryd.prog 67 #[.bool mo, .agg #[.int .i64 (atE O j).1, strV (atE O j).2], .agg #[.int .i64 r, strV s]] w fun e w' => e = .returned (.bool (ahE mo (atE O j) (r, s))) ∧ Below w.heap.size w w' := fun w => rahead_any mo _ r _ s w
          have hC : ahE mo (atE O j) (r, s) = decide (j < p) := by
            by_cases h : j < p
            · rw [HO.out.2.1 j h]; simp [h]
            · obtain rfl : j = p := by omega
              rw [HO.out.2.2 hjk]; simp
          rw [hC] at ka
          generalize (atE O j).1 = x at *
          generalize (atE O j).2 = y at *
          have HP2 : Bx (j < k) := ⟨hjk⟩
          clear hrow' hC
          go_wp2_with fail
          have q0 := cell_regrown c0
          have q1 := cell_regrown c1
          have q2 := cell_regrown d0
          have q3 := cell_regrown d1
          clear c0 c1 d0 d1
          obtain ⟨C, hC⟩ : ∃ C, decide (j < p) = C := ⟨_, rfl⟩
          rw [hC] at ka
          have HC : Bx (decide (j < p) = C) := ⟨hC⟩
          clear hC
          refine wp_region_quiet_below (by kernel_rfl) (by kernel_rfl) ?_
          repeat (go_big_quiet_step (first | (go_at_call 67; with_reducible exact Calls.regrown_of (ka _))))
          refine wpQuiet_nil ?_
          intro _ hw'
          obtain ⟨⟨dq, osq⟩, hw''⟩ := hw'
          subst hw''
          have HF : Bx (Below w0.heap.size w0 (Go.Sort.grow (redrawn wr dq) osq)) := ⟨HB.out.trans ((below_regrown wr dq osq).mono HB.out.size)⟩
          clear q0 q1 q2 q3 HB HJ ka
          generalize Go.Sort.grow (redrawn wr dq) osq = w1 at *
          cases C
          · have hjp : p = j := by have := of_decide_eq_false HC.out; omega
            subst hjp
            have HX := Bx.mk (HI.out.step HF.out)
            clear HI
            go_wp2_with (at_builtin; refine wpList_append_own_wide _ rfl _ _ 30 rfl w.heap.size 27 i0 (.agg #[.int .i64 0, .string ⟨#[]⟩]) 2 24 Tryd.underlying30 HI0.out.1 HI0.out.2.1 HI0.out.2.2.1 HI0.out.2.2.2 rfl (by decide) _ k (entC O) rfl (HX.out.own.alloc _) ⟨w1.heap.size, 0, none⟩ 1 1 [.int .i64 0, strV []] rfl rfl (news_box _ _ _ _ (box_cells w1 0 [] _).1 (box_cells w1 0 [] _).2) (oneE 0 []) (by unfold maxLen; omega) (wideE (by omega)) (by have := HX.out.b.size; simp only [heap_push, Array.size_push]; omega) ?_; intro v' w2 hown hg hx; clear hx; obtain ⟨g, cap', rfl, hge⟩ := own_ge hown (by omega); have HK : Bx (ShIn w w2 O g cap' k k (O ++ [(0, [])])) := ⟨⟨below_own (HX.out.b.trans ((below1 _ _).mono HX.out.b.size)) hg (fun g e => (HX.out.own.lt g e).1) (by have := HX.out.b.size; simp only [heap_push, Array.size_push]; omega), by rw [entC_snoc]; exact hown, by have := Shift.start O; rwa [HX.out.len] at this⟩⟩; have HG : Bx (w.heap.size ≤ g) := ⟨hge⟩; clear hown hg hge)
            go_loopw [8] (fun i wr => ∃ (j : Nat) (M : List Ent), p ≤ j ∧ j ≤ k ∧ i = .int .i64 j ∧ Bx (ShIn w wr O g cap' k j M)) (fun i _ => (intOf i).toNat)
            case atStart => exact ⟨k, _, hp1, by omega, rfl, HK⟩
            case round =>
              obtain ⟨j, M, hpj, hjk, rfl, HS⟩ := hrel
              clear HK
              have hMl : M.length = k + 1 := by rw [HS.out.sh.len, HX.out.len]
              by_cases hlt2 : p < j
              · obtain ⟨m, rfl⟩ : ∃ m, j = m + 1 := ⟨j - 1, by omega⟩
                have e0 := ent_cells (own_base HS.out.own) hMl.symm (show m < M.length by omega)
                have e1 := ent_cells (own_base HS.out.own) hMl.symm (show m + 1 < M.length by omega)
                obtain ⟨e0, e0'⟩ := e0
                obtain ⟨e1, e1'⟩ := e1
                have f0 := HS.out.own.frozenAt ((m + 1) * 2)
                have f1 := HS.out.own.frozenAt ((m + 1) * 2 + 1)
                have HZ : Bx (ShIn w ((wr.setCell ⟨g, (m + 1) * 2, none⟩ (.int .i64 (atE M m).1)).setCell ⟨g, (m + 1) * 2 + 1, none⟩ (strV (atE M m).2)) O g cap' k m (M.set (m + 1) (atE M m))) := ⟨⟨(HS.out.b.setCell HG.out _).setCell HG.out _, own_put2 (atE M m) HS.out.own, HS.out.sh.step (by rw [HX.out.len]; omega)⟩⟩
                have hmk : m < k + 1 := by omega
                have hpm : p ≤ m := by omega
                generalize (atE M m).1 = x at *
                generalize (atE M m).2 = y at *
                clear hMl
                go_wp2
                all_goals exact ⟨⟨m, _, hpm, by omega, rfl, HZ⟩, by simp only [intOf]; omega⟩
              · obtain rfl : p = j := by omega
                obtain ⟨d0, d1⟩ := HA.out wr HS.out.b
                have f0 := HS.out.own.frozenAt (p * 2)
                have f1 := HS.out.own.frozenAt (p * 2 + 1)
                have e1 := ent_cells (own_base HS.out.own) hMl.symm (show p < M.length by omega)
                obtain ⟨e1, e1'⟩ := e1
                have HZ : Bx (RIn w ((wr.setCell ⟨g, p * 2, none⟩ (.int .i64 r)).setCell ⟨g, p * 2 + 1, none⟩ (strV s)) mo L (.slice (some ⟨g, 0, none⟩) (k + 1) cap') (insE O p (r, s)) (k + 1)) := ⟨by
                  have hp := HX.out.len
                  refine ⟨(HS.out.b.setCell HG.out _).setCell HG.out _, ?_, by rw [ins_len (by omega), hp], srt_ins HX.out.srt (by omega) HO.out.2.1 (fun h => HO.out.2.2 (by omega)) (by rw [← HE.out]; exact HX.out.fresh HR.out.2 (by rw [HL.out]; exact hlt)), ?_⟩
                  · rw [← HS.out.sh.ins (by omega) (r, s)]; exact own_put2 (r, s) HS.out.own
                  · refine (ins_perm O p (r, s)).trans ((HX.out.p.cons _).trans ?_)
                    rw [List.take_add_one, List.getElem?_eq_getElem (by rw [HL.out]; exact hlt)]
                    have e : L[k]'(by rw [HL.out]; exact hlt) = (r, s) := by
                      rw [← HE.out]; unfold atE; rw [List.getD_eq_getElem?_getD, List.getElem?_eq_getElem (by rw [HL.out]; exact hlt)]; rfl
                    rw [e]
                    exact (List.perm_append_singleton _ _).symm⟩
                have hjk1 : p < k + 1 := by omega
                clear hMl
                go_wp2
                exact ⟨⟨k + 1, _, by omega, by rw [Int.natCast_succ], HZ⟩, by simp only [intOf]; omega⟩
          · have hjp : j < p := of_decide_eq_true HC.out
            go_wp2
            exact ⟨⟨j + 1, by omega, by rw [Int.natCast_succ], HF⟩, by simp only [intOf]; omega⟩
        · have hjp : p = j := by omega
          subst hjp
          have dk : decide (p < k) = false := decide_eq_false hjk
          go_wp2_with fail
          refine wp_region_quiet_below (by kernel_rfl) (by kernel_rfl) ?_
          repeat (go_big_quiet_step (fail))
          refine wpQuiet_nil ?_
          intro _ hw'
          obtain ⟨⟨dq, osq⟩, hw''⟩ := hw'
          subst hw''
          have HX := Bx.mk (HJ.out.step (below_regrown wr dq osq))
          clear HI HJ HB
          generalize Go.Sort.grow (redrawn wr dq) osq = w1 at *
          go_wp2_with (at_builtin; refine wpList_append_own_wide _ rfl _ _ 30 rfl w.heap.size 27 i0 (.agg #[.int .i64 0, .string ⟨#[]⟩]) 2 24 Tryd.underlying30 HI0.out.1 HI0.out.2.1 HI0.out.2.2.1 HI0.out.2.2.2 rfl (by decide) _ k (entC O) rfl (HX.out.own.alloc _) ⟨w1.heap.size, 0, none⟩ 1 1 [.int .i64 0, strV []] rfl rfl (news_box _ _ _ _ (box_cells w1 0 [] _).1 (box_cells w1 0 [] _).2) (oneE 0 []) (by unfold maxLen; omega) (wideE (by omega)) (by have := HX.out.b.size; simp only [heap_push, Array.size_push]; omega) ?_; intro v' w2 hown hg hx; clear hx; obtain ⟨g, cap', rfl, hge⟩ := own_ge hown (by omega); have HK : Bx (ShIn w w2 O g cap' k k (O ++ [(0, [])])) := ⟨⟨below_own (HX.out.b.trans ((below1 _ _).mono HX.out.b.size)) hg (fun g e => (HX.out.own.lt g e).1) (by have := HX.out.b.size; simp only [heap_push, Array.size_push]; omega), by rw [entC_snoc]; exact hown, by have := Shift.start O; rwa [HX.out.len] at this⟩⟩; have HG : Bx (w.heap.size ≤ g) := ⟨hge⟩; clear hown hg hge)
          go_loopw [8] (fun i wr => ∃ (j : Nat) (M : List Ent), p ≤ j ∧ j ≤ k ∧ i = .int .i64 j ∧ Bx (ShIn w wr O g cap' k j M)) (fun i _ => (intOf i).toNat)
          case atStart => exact ⟨k, _, hp1, by omega, rfl, HK⟩
          case round =>
            obtain ⟨j, M, hpj, hjk, rfl, HS⟩ := hrel
            clear HK
            have hMl : M.length = k + 1 := by rw [HS.out.sh.len, HX.out.len]
            by_cases hlt2 : p < j
            · obtain ⟨m, rfl⟩ : ∃ m, j = m + 1 := ⟨j - 1, by omega⟩
              have e0 := ent_cells (own_base HS.out.own) hMl.symm (show m < M.length by omega)
              have e1 := ent_cells (own_base HS.out.own) hMl.symm (show m + 1 < M.length by omega)
              obtain ⟨e0, e0'⟩ := e0
              obtain ⟨e1, e1'⟩ := e1
              have f0 := HS.out.own.frozenAt ((m + 1) * 2)
              have f1 := HS.out.own.frozenAt ((m + 1) * 2 + 1)
              have HZ : Bx (ShIn w ((wr.setCell ⟨g, (m + 1) * 2, none⟩ (.int .i64 (atE M m).1)).setCell ⟨g, (m + 1) * 2 + 1, none⟩ (strV (atE M m).2)) O g cap' k m (M.set (m + 1) (atE M m))) := ⟨⟨(HS.out.b.setCell HG.out _).setCell HG.out _, own_put2 (atE M m) HS.out.own, HS.out.sh.step (by rw [HX.out.len]; omega)⟩⟩
              have hmk : m < k + 1 := by omega
              have hpm : p ≤ m := by omega
              generalize (atE M m).1 = x at *
              generalize (atE M m).2 = y at *
              clear hMl
              go_wp2
              all_goals exact ⟨⟨m, _, hpm, by omega, rfl, HZ⟩, by simp only [intOf]; omega⟩
            · obtain rfl : p = j := by omega
              obtain ⟨d0, d1⟩ := HA.out wr HS.out.b
              have f0 := HS.out.own.frozenAt (p * 2)
              have f1 := HS.out.own.frozenAt (p * 2 + 1)
              have e1 := ent_cells (own_base HS.out.own) hMl.symm (show p < M.length by omega)
              obtain ⟨e1, e1'⟩ := e1
              have HZ : Bx (RIn w ((wr.setCell ⟨g, p * 2, none⟩ (.int .i64 r)).setCell ⟨g, p * 2 + 1, none⟩ (strV s)) mo L (.slice (some ⟨g, 0, none⟩) (k + 1) cap') (insE O p (r, s)) (k + 1)) := ⟨by
                have hp := HX.out.len
                refine ⟨(HS.out.b.setCell HG.out _).setCell HG.out _, ?_, by rw [ins_len (by omega), hp], srt_ins HX.out.srt (by omega) HO.out.2.1 (fun h => HO.out.2.2 (by omega)) (by rw [← HE.out]; exact HX.out.fresh HR.out.2 (by rw [HL.out]; exact hlt)), ?_⟩
                · rw [← HS.out.sh.ins (by omega) (r, s)]; exact own_put2 (r, s) HS.out.own
                · refine (ins_perm O p (r, s)).trans ((HX.out.p.cons _).trans ?_)
                  rw [List.take_add_one, List.getElem?_eq_getElem (by rw [HL.out]; exact hlt)]
                  have e : L[k]'(by rw [HL.out]; exact hlt) = (r, s) := by
                    rw [← HE.out]; unfold atE; rw [List.getD_eq_getElem?_getD, List.getElem?_eq_getElem (by rw [HL.out]; exact hlt)]; rfl
                  rw [e]
                  exact (List.perm_append_singleton _ _).symm⟩
              have hjk1 : p < k + 1 := by omega
              clear hMl
              go_wp2
              exact ⟨⟨k + 1, _, by omega, by rw [Int.natCast_succ], HZ⟩, by simp only [intOf]; omega⟩
    · obtain rfl : k = n := by omega
      have HK : Bx _ := ⟨row_of HI.out.own HI.out.len⟩
      obtain ⟨A', c', rfl, hrow, hf⟩ := HK.out
      have hp := HI.out.p
      rw [List.take_of_length_le (by rw [HL.out]; omega)] at hp
      have HF : Bx _ := ⟨And.intro hrow (And.intro HI.out.srt (And.intro hp (And.intro HI.out.b hf)))⟩
      clear HK hrow hf hp
      go_wp2
      go_ret
      exact ⟨A', c', O, rfl, HF.out⟩
end Go.Proofs.YtlodgmmhaolmaaaDoor
