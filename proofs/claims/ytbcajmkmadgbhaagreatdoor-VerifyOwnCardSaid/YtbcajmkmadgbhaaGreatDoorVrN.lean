/- Verify, the document's answer: head. -/
import Derived.Test.YtbcajmkmadgbhaaGreatDoorVrM
import Derived.Test.YtbcajmkmadgbhaaGreatDoorVrL
set_option linter.unusedSimpArgs false
set_option linter.unusedVariables false
namespace Go.Proofs.YtbcajmkmadgbhaaGreatDoor
open Go.RowKit
theorem no_head {D : PrgD} {V : Bool} (hV : V = headB D) (h : ¬HeadP D) : V = false := by
  rw [hV]
  cases hh : headB D with
  | false => rfl
  | true => exact absurd ((headB_iff D).1 hh) h
theorem head17_iff {D : PrgD} (h : head17 D.from_ D.into D.every D.offset D.groups = true) : rightB D.from_ 64 = true ∧ (D.into = [] ∨ rightB D.into 64 = true) ∧ 1 ≤ D.every ∧ D.every ≤ 288230376151711744 ∧ 0 ≤ D.offset ∧ D.offset < D.every ∧ D.groups.length ≤ 8 ∧ D.groups.all wordB = true := by
  unfold head17 at h
  simp only [Bool.and_eq_true, Bool.or_eq_true, decide_eq_true_eq, List.isEmpty_iff] at h
  obtain ⟨⟨⟨⟨⟨⟨⟨a, b⟩, c⟩, d⟩, e⟩, f⟩, g⟩, i⟩ := h
  exact ⟨a, b, c, d, e, f, g, i⟩
theorem HeadP.h17 {D : PrgD} (h : HeadP D) : head17 D.from_ D.into D.every D.offset D.groups = true := by
  unfold head17
  simp only [Bool.and_eq_true, Bool.or_eq_true, decide_eq_true_eq, List.isEmpty_iff]
  exact ⟨⟨⟨⟨⟨⟨⟨h.from_, h.into⟩, h.e1⟩, h.e2⟩, h.o1⟩, h.o2⟩, h.groups⟩, h.gwords⟩
/-- what the first test of the document's head asks -/
def first19 (D : PrgD) : Bool := head17 D.from_ D.into D.every D.offset D.groups && D.accs.all accB && decide (1 ≤ D.aliases.length) && decide (D.aliases.length ≤ 16) && D.aliases.all wordB && D.names.all wordB && D.texts.all blankB
theorem first19_of {D : PrgD} (h : HeadP D) : first19 D = true := by
  unfold first19
  simp only [Bool.and_eq_true, decide_eq_true_eq]
  exact ⟨⟨⟨⟨⟨⟨h.h17, h.accs⟩, h.a1⟩, h.a2⟩, h.aliases⟩, h.names⟩, h.texts⟩
theorem head_of_parts {D : PrgD} (h1 : first19 D = true) (h2 : D.aliases.Nodup) (h3 : D.lists.all listB = true) (h4 : D.filter.length ≤ 65536) (h5 : D.output.length ≤ 65536) : HeadP D := by
  unfold first19 at h1
  simp only [Bool.and_eq_true, decide_eq_true_eq] at h1
  obtain ⟨⟨⟨⟨⟨⟨a, b⟩, c⟩, d⟩, e⟩, f⟩, g⟩ := h1
  obtain ⟨r1, r2, r3, r4, r5, r6, r7, r8⟩ := head17_iff a
  exact ⟨r1, r2, r3, r4, r5, r6, r7, r8, f, g, b, e, h2, h3, c, d, h4, h5⟩
theorem nodup_get {α : Type} {l : List α} (h : l.Nodup) {i k : Nat} {x : α} (hi : l[i]? = some x) (hk : l[k]? = some x) : i = k := by
  have h1 := (List.getElem?_eq_some_iff.1 hi).1
  have h2 := (List.getElem?_eq_some_iff.1 hk).1
  exact (List.getElem_inj h).1 (((List.getElem?_eq_some_iff.1 hi).2).trans ((List.getElem?_eq_some_iff.1 hk).2).symm)
set_option maxHeartbeats 8000000 in
set_option maxRecDepth 100000 in
theorem rhead_any (D : PrgD) (L : PLoc) (w : World) (hM : PrgM w D L) (hB : PrgB D) (hG : GlobK w) :
    Calls Tryz.prog 19 #[prgV D L] w fun e w' => e = .returned (.bool (headB D)) ∧ Below w.heap.size w w' := by
  have H0 : Bx _ := ⟨HdB.alloc w D L 28 hM hG⟩
  have HB : Bx _ := ⟨hB⟩
  obtain ⟨V, hV⟩ : ∃ V, V = headB D := ⟨_, rfl⟩
  rw [← hV]
  have HV : Bx _ := ⟨hV⟩
  clear hV hM hG hB
  go_enter Tryz.func19, Tryz.ntmps19
  go_upto_region 1 with (fail)
  generalize (w.alloc (.cells (prgC D L) 28)) = w0 at *
  generalize hS : w.heap.size = S at *
  have HZ : Bx (w.heap.size = S) := ⟨hS⟩
  clear hS
  go_cut [53] from 6 (fun g wx => ∃ G : Bool, g = .bool G ∧ wx = w0 ∧ Bx (G = !first19 D))
  case first =>
    have k1 := fun w' (h : w' = w0) => head17_any D.from_ D.into D.every D.offset L.ag D.groups L.cg w' (by rw [h]; exact H0.out.mem.groups) HB.out.groups HB.out.from_ HB.out.into
    have k2 := fun w' (h : w' = w0) => raccs_any L.ac D.accs L.cc w' (by rw [h]; exact H0.out.mem.accs) HB.out.accs
    have k5 := fun w' (h : w' = w0) => words_any L.al D.aliases L.cl w' (by rw [h]; exact H0.out.mem.aliases) HB.out.aliases
    have k6 := fun w' (h : w' = w0) => words_any L.an D.names L.cn w' (by rw [h]; exact H0.out.mem.names) HB.out.names
    have k7 := fun w' (h : w' = w0) => texts_any L.at_ D.texts L.ct w' (by rw [h]; exact H0.out.mem.texts) HB.out.texts
    obtain ⟨b1, hb1⟩ : ∃ b, head17 D.from_ D.into D.every D.offset D.groups = b := ⟨_, rfl⟩
    obtain ⟨b2, hb2⟩ : ∃ b, D.accs.all accB = b := ⟨_, rfl⟩
    obtain ⟨b3, hb3⟩ : ∃ b, decide ((D.aliases.length : Int) < 1) = !b := ⟨!decide ((D.aliases.length : Int) < 1), by simp⟩
    obtain ⟨b4, hb4⟩ : ∃ b, decide ((16 : Int) < (D.aliases.length : Int)) = !b := ⟨!decide ((16 : Int) < (D.aliases.length : Int)), by simp⟩
    obtain ⟨b5, hb5⟩ : ∃ b, D.aliases.all wordB = b := ⟨_, rfl⟩
    obtain ⟨b6, hb6⟩ : ∃ b, D.names.all wordB = b := ⟨_, rfl⟩
    obtain ⟨b7, hb7⟩ : ∃ b, D.texts.all blankB = b := ⟨_, rfl⟩
    have HG : Bx ((!(b1 && b2 && b3 && b4 && b5 && b6 && b7)) = !first19 D) := ⟨by
      unfold first19
      have e3 : decide (1 ≤ D.aliases.length) = b3 := by
        have : decide (1 ≤ D.aliases.length) = !decide ((D.aliases.length : Int) < 1) := by rw [Bool.eq_iff_iff]; simp; omega
        rw [this, hb3]; simp
      have e4 : decide (D.aliases.length ≤ 16) = b4 := by
        have : decide (D.aliases.length ≤ 16) = !decide ((16 : Int) < (D.aliases.length : Int)) := by rw [Bool.eq_iff_iff]; simp; omega
        rw [this, hb4]; simp
      rw [hb1, hb2, hb5, hb6, hb7, e3, e4]⟩
    rw [hb1] at k1
    rw [hb2] at k2
    rw [hb5] at k5
    rw [hb6] at k6
    rw [hb7] at k7
    clear hb1 hb2 hb5 hb6 hb7
    have p0 := H0.out.box.cell 0 _ rfl
    have p1 := H0.out.box.cell 1 _ rfl
    have p2 := H0.out.box.cell 2 _ rfl
    have p3 := H0.out.box.cell 3 _ rfl
    have p4 := H0.out.box.cell 4 _ rfl
    have p5 := H0.out.box.cell 5 _ rfl
    have p6 := H0.out.box.cell 6 _ rfl
    have p7 := H0.out.box.cell 7 _ rfl
    have p8 := H0.out.box.cell 8 _ rfl
    go_wp2_with fail
    refine (k1 _ rfl).mono ?_
    rintro e wx ⟨rfl, rfl⟩
    cases b1
    · go_wp2_with fail
      go_meet
      exact ⟨_, rfl, rfl, ⟨HG.out⟩⟩
    · go_wp2_with fail
      refine (k2 _ rfl).mono ?_
      rintro e wx ⟨rfl, rfl⟩
      cases b2
      · go_wp2_with fail
        go_meet
        exact ⟨_, rfl, rfl, ⟨HG.out⟩⟩
      · cases b3
        · go_wp2_with fail
          go_meet
          exact ⟨_, rfl, rfl, ⟨HG.out⟩⟩
        · cases b4
          · go_wp2_with fail
            go_meet
            exact ⟨_, rfl, rfl, ⟨HG.out⟩⟩
          · go_wp2_with fail
            refine (k5 _ rfl).mono ?_
            rintro e wx ⟨rfl, rfl⟩
            cases b5
            · go_wp2_with fail
              go_meet
              exact ⟨_, rfl, rfl, ⟨HG.out⟩⟩
            · go_wp2_with fail
              refine (k6 _ rfl).mono ?_
              rintro e wx ⟨rfl, rfl⟩
              cases b6
              · go_wp2_with fail
                go_meet
                exact ⟨_, rfl, rfl, ⟨HG.out⟩⟩
              · go_wp2_with fail
                refine (k7 _ rfl).mono ?_
                rintro e wx ⟨rfl, rfl⟩
                cases b7
                · go_wp2_with fail
                  go_meet
                  exact ⟨_, rfl, rfl, ⟨HG.out⟩⟩
                · go_wp2_with fail
                  go_meet
                  exact ⟨_, rfl, rfl, ⟨HG.out⟩⟩
  case rest =>
    obtain ⟨G, rfl, rfl, HG⟩ := hcut
    cases G
    · have HF : Bx (first19 D = true) := ⟨by have h := HG.out; simpa using h.symm⟩
      have p6 : wc.cell? ⟨S, 6, none⟩ = some (.slice L.al D.aliases.length L.cl) := H0.out.box.cell 6 _ rfl
      obtain ⟨Aal, hAal⟩ : ∃ x, L.al = x := ⟨_, rfl⟩
      rw [hAal] at p6
      have HAal : Bx (L.al = Aal) := ⟨hAal⟩
      clear hAal HG
      go_wp2_with fail
      go_loopw [3] (fun i wr => ∃ (n : Nat), n ≤ D.aliases.length ∧ i = .int .i64 (n : Int) ∧ Bx (HdB w wr S D L ∧ (D.aliases.take n).Nodup)) (fun i _ => D.aliases.length - (intOf i).toNat)
      case atStart => exact ⟨0, by omega, rfl, ⟨H0.out, by simp⟩⟩
      case round =>
        obtain ⟨n, hn, rfl, HI⟩ := hrel
        clear p6
        have hnn := HI.out.1.mem.aliases.n
        have p6 : wr.cell? ⟨S, 6, none⟩ = some (.slice Aal D.aliases.length L.cl) := by rw [← HAal.out]; exact HI.out.1.box.cell 6 _ rfl
        by_cases hlt : n < D.aliases.length
        · have hx : D.aliases[n]? = some D.aliases[n] := List.getElem?_eq_getElem hlt
          have HX : Bx _ := ⟨hx⟩
          generalize D.aliases[n] = x at *
          clear hx
          have HI1 : Bx _ := ⟨HI.out.1⟩
          have HI2 : Bx _ := ⟨HI.out.2⟩
          clear HI
          go_wp2_with fail
          go_loopw [4] (fun i wr => ∃ (k : Nat), k ≤ n ∧ i = .int .i64 (k : Int) ∧ Bx (HdB w wr S D L ∧ ∀ j, j < k → D.aliases[j]? ≠ some x)) (fun i _ => n - (intOf i).toNat)
          case atStart => exact ⟨0, by omega, rfl, ⟨HI1.out, fun j h => absurd h (by omega)⟩⟩
          case round =>
            obtain ⟨k, hk, rfl, HJ⟩ := hrel
            clear p6
            have p6 : wr.cell? ⟨S, 6, none⟩ = some (.slice Aal D.aliases.length L.cl) := by rw [← HAal.out]; exact HJ.out.1.box.cell 6 _ rfl
            by_cases hkn : k < n
            · have hrw := HJ.out.1.mem.aliases
              rw [HAal.out] at hrw
              obtain ⟨b, off, rfl, hrow⟩ := row_one hrw (by omega)
              have hy : D.aliases[k]? = some (D.aliases[k]'(by omega)) := List.getElem?_eq_getElem (by omega)
              have r1 := hrow n _ HX.out
              have r0 := hrow k _ hy
              have HY : Bx _ := ⟨hy⟩
              generalize (D.aliases[k]'(by omega)) = y at *
              clear hrow hy hrw
              obtain ⟨E, hE⟩ : ∃ E, (y == x) = E := ⟨_, rfl⟩
              have HEE : Bx (((y == x) : Bool) = E) := ⟨hE⟩
              have q6 := cell_regrown p6
              have q0 := cell_regrown r0
              have q1 := cell_regrown r1
              have hkl : k < D.aliases.length := by omega
              go_wp2_with fail
              clear p6 r0 r1
              refine wp_region_quiet_below (by kernel_rfl) (by kernel_rfl) ?_
              repeat (go_big_quiet_step (fail))
              refine wpQuiet_nil ?_
              intro _ hw'
              obtain ⟨⟨dq, osq⟩, hw''⟩ := hw'
              subst hw''
              have HK : Bx _ := ⟨HJ.out.1.step (below_regrown wr dq osq)⟩
              clear q6 q0 q1 hE
              generalize Go.Sort.grow (redrawn wr dq) osq = w2 at *
              cases E
              · have HN : Bx (HdB w w2 S D L ∧ ∀ j, j < k + 1 → D.aliases[j]? ≠ some x) := ⟨HK.out, fun j h => by
                  rcases Nat.lt_or_ge j k with h1 | h1
                  · exact HJ.out.2 j h1
                  · have e : j = k := by omega
                    subst e
                    rw [HY.out]
                    intro h
                    injection h with h
                    have := HEE.out
                    rw [h] at this
                    simp at this⟩
                go_wp2_with fail
                exact ⟨⟨k + 1, by omega, by rw [Int.natCast_succ], HN⟩, by simp only [intOf]; omega⟩
              · have HE : Bx (V = false) := ⟨no_head HV.out fun h => by
                  have e : y = x := by simpa using HEE.out
                  have h1 := HY.out
                  rw [e] at h1
                  have := nodup_get h.twice h1 HX.out
                  omega⟩
                go_wp2
                go_ret
                exact ⟨by rw [HE.out]; rfl, by rw [HZ.out]; exact HK.out.below⟩
            · obtain rfl : k = n := by omega
              have HN : Bx (HdB w wr S D L ∧ (D.aliases.take (k + 1)).Nodup) := ⟨HJ.out.1, by
                have hl2 : k < D.aliases.length := hlt
                have hgx : D.aliases[k] = x := by have h := HX.out; rw [List.getElem?_eq_getElem hl2] at h; injection h
                rw [List.take_succ_eq_append_getElem hl2, hgx, List.nodup_append]
                refine ⟨HI2.out, by simp, fun a ha c hc => ?_⟩
                simp only [List.mem_cons, List.not_mem_nil, or_false] at hc
                subst hc
                rintro rfl
                obtain ⟨j, hj⟩ := List.getElem?_of_mem ha
                have hjk : j < k := by have := (List.getElem?_eq_some_iff.1 hj).1; rw [List.length_take] at this; omega
                rw [List.getElem?_take_of_lt hjk] at hj
                exact HJ.out.2 j hjk hj⟩
              clear HJ
              go_wp2_with fail
              exact ⟨⟨k + 1, by omega, by rw [Int.natCast_succ], HN⟩, by simp only [intOf]; omega⟩
        · obtain rfl : n = D.aliases.length := by omega
          have HND : Bx (D.aliases.Nodup) := ⟨by have h := HI.out.2; rwa [List.take_length] at h⟩
          have HW0 : Bx _ := ⟨HI.out.1⟩
          obtain ⟨Ali, hAli⟩ : ∃ x, L.ai = x := ⟨_, rfl⟩
          have p9 : wr.cell? ⟨S, 9, none⟩ = some (.slice Ali D.lists.length L.ci) := by rw [← hAli]; exact HW0.out.box.cell 9 _ rfl
          have HAli : Bx (L.ai = Ali) := ⟨hAli⟩
          clear hAli HI
          go_wp2_with fail
          go_loopw [5] (fun i wr => ∃ k : Nat, k ≤ D.lists.length ∧ i = .int .i64 (k : Int) ∧ Bx (HdB w wr S D L ∧ (D.lists.drop k).all listB = D.lists.all listB)) (fun i _ => D.lists.length - (intOf i).toNat)
          case atStart => exact ⟨0, by omega, rfl, ⟨HW0.out, by rw [List.drop_zero]⟩⟩
          case round =>
            obtain ⟨k, hk, rfl, HI⟩ := hrel
            clear p9 p6
            have hn := HI.out.1.mem.nl
            have p9 : wr.cell? ⟨S, 9, none⟩ = some (.slice Ali D.lists.length L.ci) := by rw [← HAli.out]; exact HI.out.1.box.cell 9 _ rfl
            by_cases hlt2 : k < D.lists.length
            · have hrw := HI.out.1.mem.lists (by omega)
              rw [HAli.out] at hrw
              obtain ⟨b, off, rfl, hrow⟩ := hrw
              have hx : D.lists[k]? = some D.lists[k] := List.getElem?_eq_getElem hlt2
              have r0 := (hrow k _ hx).1
              have HTX : Bx _ := ⟨(hrow k _ hx).2⟩
              have HD : Bx (D.lists.drop k = D.lists[k] :: D.lists.drop (k + 1)) := ⟨List.drop_eq_getElem_cons hlt2⟩
              have HX : Bx _ := ⟨HB.out.lists _ (List.getElem_mem hlt2)⟩
              generalize D.lists[k] = f at *
              generalize L.la k = Af at *
              generalize L.lc k = cf at *
              clear hrow hx
              obtain ⟨c1, hc1⟩ : ∃ c1, decide ((f.length : Int) < 1) = c1 := ⟨_, rfl⟩
              obtain ⟨c2, hc2⟩ : ∃ c2, decide ((64 : Int) < (f.length : Int)) = c2 := ⟨_, rfl⟩
              have HLB : Bx (listB f = (!c1 && !c2 && f.all blankB)) := ⟨by
                unfold listB
                rw [← hc1, ← hc2]
                have e1 : decide (1 ≤ f.length) = !decide ((f.length : Int) < 1) := by rw [Bool.eq_iff_iff]; simp; omega
                have e2 : decide (f.length ≤ 64) = !decide ((64 : Int) < (f.length : Int)) := by rw [Bool.eq_iff_iff]; simp; omega
                rw [e1, e2]⟩
              cases c1
              · cases c2
                · have kc := texts_any Af f cf wr HTX.out HX.out
                  obtain ⟨W, hW⟩ : ∃ W, f.all blankB = W := ⟨_, rfl⟩
                  rw [hW] at kc
                  have HW : Bx _ := ⟨hW⟩
                  clear hW
                  go_wp2_with fail
                  refine kc.mono ?_
                  rintro e w6 ⟨rfl, rfl⟩
                  clear kc r0 hc1 hc2
                  cases W
                  · have HE : Bx (V = false) := ⟨no_head HV.out fun h => by have h3 := h.lists; rw [← HI.out.2, HD.out, List.all_cons, HLB.out, HW.out] at h3; simp at h3⟩
                    go_wp2
                    go_ret
                    exact ⟨by rw [HE.out]; rfl, by rw [HZ.out]; exact HI.out.1.below⟩
                  · have HN : Bx (HdB w wr S D L ∧ (D.lists.drop (k + 1)).all listB = D.lists.all listB) := ⟨HI.out.1, by rw [← HI.out.2, HD.out, List.all_cons, HLB.out, HW.out]; simp⟩
                    go_wp2_with fail
                    exact ⟨⟨k + 1, by omega, by rw [Int.natCast_succ], HN⟩, by simp only [intOf]; omega⟩
                · have HE : Bx (V = false) := ⟨no_head HV.out fun h => by have h3 := h.lists; rw [← HI.out.2, HD.out, List.all_cons, HLB.out] at h3; simp at h3⟩
                  go_wp2
                  go_ret
                  exact ⟨by rw [HE.out]; rfl, by rw [HZ.out]; exact HI.out.1.below⟩
              · have HE : Bx (V = false) := ⟨no_head HV.out fun h => by have h3 := h.lists; rw [← HI.out.2, HD.out, List.all_cons, HLB.out] at h3; simp at h3⟩
                go_wp2
                go_ret
                exact ⟨by rw [HE.out]; rfl, by rw [HZ.out]; exact HI.out.1.below⟩
            · obtain rfl : k = D.lists.length := by omega
              have HAL : Bx (D.lists.all listB = true) := ⟨by have h := HI.out.2; rw [List.drop_length] at h; exact h.symm⟩
              obtain ⟨d3, hd3⟩ : ∃ d3, decide ((D.filter.length : Int) ≤ 65536) = d3 := ⟨_, rfl⟩
              obtain ⟨d4, hd4⟩ : ∃ d4, decide ((D.output.length : Int) ≤ 65536) = d4 := ⟨_, rfl⟩
              have HV4 : Bx (V = (d3 && d4)) := ⟨by
                rw [← hd3, ← hd4]
                by_cases h4 : D.filter.length ≤ 65536 ∧ D.output.length ≤ 65536
                · rw [HV.out, (headB_iff D).2 (head_of_parts HF.out HND.out HAL.out h4.1 h4.2)]
                  simp; omega
                · rw [no_head HV.out fun h => h4 ⟨h.fi, h.ou⟩]
                  symm
                  rw [Bool.and_eq_false_iff]
                  simp only [decide_eq_false_iff_not]
                  omega⟩
              have p12 := HI.out.1.box.cell 12 _ rfl
              have p13 := HI.out.1.box.cell 13 _ rfl
              have HBB : Bx (Below S w wr) := ⟨HI.out.1.below⟩
              clear HI
              cases d3
              · go_wp2
                go_ret
                exact ⟨by rw [HV4.out]; simp, by rw [HZ.out]; exact HBB.out⟩
              · go_wp2
                go_ret
                exact ⟨by rw [HV4.out]; simp, by rw [HZ.out]; exact HBB.out⟩
    · have HE : Bx (V = false) := ⟨no_head HV.out fun h => by have h2 := HG.out; rw [first19_of h] at h2; cases h2⟩
      go_wp2
      go_ret
      exact ⟨by rw [HE.out]; rfl, by rw [HZ.out]; exact H0.out.below⟩
end Go.Proofs.YtbcajmkmadgbhaaGreatDoor
