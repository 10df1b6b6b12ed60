/- Verify: small, Heights, SameInts, Same at what Program tells, live. Conditions: code.table, the two tables of unicode/utf8 and errors.errorType hold what the program's text lays in them. -/
import Derived.Test.YtbcajmkmadgbhaaGreatDoorVrS
set_option linter.unusedSimpArgs false
set_option linter.unusedVariables false
namespace Go.Proofs.YtbcajmkmadgbhaaGreatDoor
open Go.RowKit
theorem goodAsc (l : List UInt8) (h : ∀ c ∈ l, 32 ≤ c.toNat ∧ c.toNat < 127) : goodL l = true := by
  induction l with
  | nil => exact goodL_nil
  | cons c t ih =>
    have hc := h c (by simp)
    have hw : wideL (c :: t) = 1 := wide_lo (by simp) (by simp; omega)
    rw [goodL_step (by simp) (by rw [hw]; simp; omega), hw]
    exact ih (fun x hx => h x (by simp [hx]))
/-- Is, of an error with a place: yes. -/
theorem is_A (p c k : Int) (w : World) (hG : Glob w) (hk : 1 ≤ k) (hck : (c == k) = true) :
    Calls Tryz.prog 33 #[atV p c, .int .i64 k] w fun e w' => e = .returned (.bool true) ∧ Below w.heap.size w w' := by
  have hk0 : (k == 0) = false := by simp; omega
  have hG' : Glob (w.alloc (.cells #[.int .i64 0] 58)) := hG.below ((Below.refl _ _).alloc (Nat.le_refl _) _) hG.lt
  go_enter Tryz.func33, Tryz.ntmps33
  go_wp2_with (go_at_call 62; refine (as_AE p c ⟨w.heap.size, 0, none⟩ (.int .i64 0) _ hG' (by simp) (by simp)).mono ?_; rintro e w' ⟨rfl, hc, hg⟩)
  go_ret
  exact ⟨by simp, ((Below.refl _ _).alloc (Nat.le_refl _) _).trans (below_of_grown hg (Nat.le_refl _) (by simp))⟩
/-- Same, of what both tell of a program -/
theorem vsame_any (D : PrgD) (w : World) (hG : Glob w) : Calls Tryz.prog 14 #[verV (verF D), verB (verF D)] w fun e w' => e = .returned (.bool true) ∧ Below w.heap.size w w' := by
  cases h : verF D with
  | none => exact same_nil w
  | some x =>
    obtain ⟨c, o⟩ := x
    have hc := verF_pos h
    cases o with
    | none => exact same_E c w hG hc
    | some n => exact same_A (n : Int) c w hG hc
set_option maxHeartbeats 2000000 in
set_option maxRecDepth 100000 in
/-- SameInts, of two rows that tell the same -/
theorem sameints_any (A1 A2 : Option Addr) (l : List Int) (c1 c2 : Nat) (w : World) (h1 : I64L w A1 l) (h2 : I64L w A2 l) :
    Calls Tryz.prog 15 #[.slice A1 l.length c1, .slice A2 l.length c2] w fun e w' => e = .returned (.bool true) ∧ Below w.heap.size w w' := by
  have HR : Bx _ := ⟨And.intro h1 h2⟩
  have hn := h1.n
  clear h1 h2
  go_enter Tryz.func15, Tryz.ntmps15
  go_wp2_with fail
  go_loopw [5] (fun i wr => ∃ k : Nat, k ≤ l.length ∧ i = .int .i64 (k : Int) ∧ Bx (Below w.heap.size w wr)) (fun i _ => l.length - (intOf i).toNat)
  case atStart => exact ⟨0, by omega, rfl, ⟨Below.refl _ _⟩⟩
  case round =>
    obtain ⟨k, hk, rfl, HI⟩ := hrel
    by_cases hlt : k < l.length
    · obtain ⟨b, off, rfl, hrow⟩ := row_one (HR.out.1.below HI.out) (by omega)
      obtain ⟨b', off', rfl, hrow'⟩ := row_one (HR.out.2.below HI.out) (by omega)
      have hx : l[k]? = some l[k] := List.getElem?_eq_getElem hlt
      have r0 := hrow k _ hx
      have r1 := hrow' k _ hx
      generalize l[k] = x at *
      clear hrow hrow' hx
      go_wp2_with fail
      have q0 := cell_regrown r0
      have q1 := cell_regrown r1
      clear r0 r1
      refine wp_region_quiet_below (by kernel_rfl) (by kernel_rfl) ?_
      repeat (go_big_quiet_step (fail))
      refine wpQuiet_nil ?_
      intro _ hw'
      obtain ⟨⟨dq, osq⟩, hw''⟩ := hw'
      subst hw''
      have HF : Bx (Below w.heap.size w (Go.Sort.grow (redrawn wr dq) osq)) := ⟨HI.out.trans ((below_regrown wr dq osq).mono HI.out.size)⟩
      clear q0 q1 HI
      generalize Go.Sort.grow (redrawn wr dq) osq = w1 at *
      go_wp2
      exact ⟨⟨k + 1, by omega, by rw [Int.natCast_succ], HF⟩, by simp only [intOf]; omega⟩
    · obtain rfl : k = l.length := by omega
      go_wp2_with fail
      go_ret
      exact ⟨rfl, HI.out⟩
theorem i64_of_owns {w : World} {base : Nat} {v : Value} {l : List Int} (h : w.ownsRow base 3 1 v l.length (intC l)) : ∃ A c, v = .slice A l.length c ∧ I64L w A l ∧ ∀ b off, A = some ⟨b, off, none⟩ → base ≤ b := by
  obtain ⟨_, ⟨rfl, hn⟩ | ⟨M, cap, cur, rfl, hbM, hg, hnc, hcm, hcs, htk⟩⟩ := id h
  · refine ⟨none, 0, by rw [hn], ⟨fun h => absurd h (by omega), by omega⟩, fun b off e => by cases e⟩
  · refine ⟨_, cap, rfl, ⟨fun _ => ⟨M, 0, rfl, fun i x hx j u hj => ?_⟩, by unfold maxLen at hcm; omega⟩, fun b off e => by cases e; exact hbM⟩
    have hi := (List.getElem?_eq_some_iff.1 hx).1
    match j, hj with
    | 0, hj =>
      rw [Nat.zero_add, Nat.mul_one, Nat.add_zero, h.cellAt i (by omega), intC_at hi, List.getD_eq_getElem?_getD, hx]
      simpa using hj
    | j + 1, hj => simp at hj
theorem i64_of_lb {w : World} {b : Nat} {l : List Int} (h : LB w b (intC l)) (hl : l.length ≤ 9223372036854775807) : I64L w (some ⟨b, 0, none⟩) l := by
  refine ⟨fun _ => ⟨b, 0, rfl, fun i x hx j u hj => ?_⟩, hl⟩
  have hi := (List.getElem?_eq_some_iff.1 hx).1
  match j, hj with
  | 0, hj =>
    rw [Nat.zero_add, Nat.mul_one, Nat.add_zero]
    refine h.at i u ?_
    rw [intC_at hi, List.getD_eq_getElem?_getD, hx]
    simpa using hj
  | j + 1, hj => simp at hj
/-- a program's box, and what the other half knows -/
def HtsOut (w w' : World) (D : PrgD) (l : List InsD) (v : Value) : Prop := match verF D with
  | none => ∃ ls A c, heiF l 0 hs0 = .inr ls ∧ v = .tuple #[.slice A ls.length c, .nilIface] ∧ I64L w' A ls ∧ ∀ b off, A = some ⟨b, off, none⟩ → w.heap.size ≤ b
  | some _ => v = .tuple #[.slice none 0 0, verV (verF D)]
theorem verF_none {D : PrgD} (h : verF D = none) : HeadP D ∧ formF true D D.filter = none ∧ formF false D D.output = none ∧ (∃ ls, heiF D.filter 0 hs0 = .inr ls) ∧ (∃ ls, heiF D.output 0 hs0 = .inr ls) ∧ EmitP D := by
  unfold verF at h
  split at h
  · rename_i hp
    split at h
    · cases h
    · rename_i h1
      split at h
      · cases h
      · rename_i h2
        split at h
        · cases h
        · rename_i l1 h3
          split at h
          · cases h
          · rename_i l2 h4
            split at h
            · rename_i he
              exact ⟨hp, h1, h2, ⟨_, h3⟩, ⟨_, h4⟩, he⟩
            · cases h
  · cases h
theorem verV_some {c : Int} {o : Option Nat} (h : 1 ≤ c) : ∃ T v, verV (some (c, o)) = .iface T v := by
  cases o with
  | none => exact ⟨_, _, rfl⟩
  | some n => exact ⟨_, _, rfl⟩
set_option maxHeartbeats 4000000 in
set_option maxRecDepth 100000 in
theorem vheights_any (D : PrgD) (L : PLoc) (w : World) (hM : PrgM w D L) (hB : PrgB D) (hG : GlobK w) (hT : TabU w) :
    Calls Tryz.prog 6 #[prgV D L] w fun e w' => ∃ v, e = .returned v ∧ HtsOut w w' D D.filter v ∧ Below w.heap.size w w' := by
  have H0 : Bx _ := ⟨HdB.alloc w D L 28 hM hG⟩
  have HB : Bx _ := ⟨And.intro hB hT⟩
  clear hM hG hB hT
  go_enter Tryz.func6, Tryz.ntmps6
  go_upto_region 1 with (fail)
  generalize (w.alloc (.cells (prgC D L) 28)) = w0 at *
  generalize hS : w.heap.size = S at *
  have HZ : Bx (w.heap.size = S) := ⟨hS⟩
  clear hS
  have p0 := H0.out.box.cell 0 _ rfl
  have p1 := H0.out.box.cell 1 _ rfl
  have p2 := H0.out.box.cell 2 _ rfl
  have p3 := H0.out.box.cell 3 _ rfl
  have p4 := H0.out.box.cell 4 _ rfl
  have p5 := H0.out.box.cell 5 _ rfl
  have p6 := H0.out.box.cell 6 _ rfl
  have p7 := H0.out.box.cell 7 _ rfl
  have p8 := H0.out.box.cell 8 _ rfl
  have p9 := H0.out.box.cell 9 _ rfl
  have p10 := H0.out.box.cell 10 _ rfl
  have p11 := H0.out.box.cell 11 _ rfl
  have p12 := H0.out.box.cell 12 _ rfl
  have p13 := H0.out.box.cell 13 _ rfl
  have kp := program_any D L w0 H0.out.mem HB.out.1 H0.out.glob (HB.out.2.below (by rw [HZ.out]; exact H0.out.below))
  cases hv : verF D with
  | some x =>
    obtain ⟨c, o⟩ := x
    obtain ⟨T, u, hu⟩ := verV_some (o := o) (verF_pos hv)
    rw [hv, hu] at kp
    have HE : Bx (∀ w1, HtsOut w w1 D D.filter (.tuple #[.slice none 0 0, .iface T u])) := ⟨fun w1 => by unfold HtsOut; rw [hv]; simp only; rw [hu]⟩
    clear hv hu
    go_wp2_with fail
    refine kp.mono ?_
    rintro e w1 ⟨rfl, hb⟩
    have H1 : Bx _ := ⟨H0.out.step hb⟩
    clear hb kp p0 p1 p2 p3 p4 p5 p6 p7 p8 p9 p10 p11 p12 p13
    go_wp2
    go_ret2
    exact ⟨_, rfl, HE.out _, by rw [HZ.out]; exact H1.out.below⟩
  | none =>
    rw [hv] at kp
    have HV : Bx _ := ⟨hv⟩
    clear hv
    go_wp2_with fail
    refine kp.mono ?_
    rintro e w1 ⟨rfl, hb⟩
    have H1 : Bx _ := ⟨H0.out.step hb⟩
    clear hb kp p0 p1 p2 p3 p4 p5 p6 p7 p8 p9 p10 p11 p12 p13
    simp only [verV]
    have p0 := H1.out.box.cell 0 _ rfl
    have p1 := H1.out.box.cell 1 _ rfl
    have p2 := H1.out.box.cell 2 _ rfl
    have p3 := H1.out.box.cell 3 _ rfl
    have p4 := H1.out.box.cell 4 _ rfl
    have p5 := H1.out.box.cell 5 _ rfl
    have p6 := H1.out.box.cell 6 _ rfl
    have p7 := H1.out.box.cell 7 _ rfl
    have p8 := H1.out.box.cell 8 _ rfl
    have p9 := H1.out.box.cell 9 _ rfl
    have p10 := H1.out.box.cell 10 _ rfl
    have p11 := H1.out.box.cell 11 _ rfl
    have p12 := H1.out.box.cell 12 _ rfl
    have p13 := H1.out.box.cell 13 _ rfl
    go_wp2_with fail
    refine (machines_any D L w1).mono ?_
    rintro e w2 ⟨mb, rfl, _, hcb, hb⟩
    have H2 : Bx _ := ⟨And.intro (H1.out.step hb) hcb⟩
    clear hb hcb p0 p1 p2 p3 p4 p5 p6 p7 p8 p9 p10 p11 p12 p13
    have m0 : w2.cell? ⟨mb, 0, none⟩ = some (.slice L.af D.filter.length L.cf) := H2.out.2.at 0 _ rfl
    have m1 : w2.cell? ⟨mb, 1, none⟩ = some (.bool true) := H2.out.2.at 1 _ rfl
    have m2 : w2.cell? ⟨mb, 2, none⟩ = some (.int .i64 0) := H2.out.2.at 2 _ rfl
    have kh : Calls Tryz.prog 26 #[machV L.af D.filter.length L.cf true 0] w2 fun e w' => ∃ ls A c, heiF D.filter 0 hs0 = .inr ls ∧ e = .returned (.tuple #[.slice A ls.length c, .nilIface]) ∧ (I64L w' A ls ∧ ∀ b off, A = some ⟨b, off, none⟩ → w2.heap.size ≤ b) ∧ Below w2.heap.size w2 w' := by
      obtain ⟨hp, hf1, hf2, ⟨ls, hls⟩, _⟩ := verF_none HV.out
      have h := heights_any L.af D.filter L.cf true 0 w2 H2.out.1.mem.filter HB.out.1.filter (fun i hi => by obtain ⟨j, hj⟩ := List.getElem?_of_mem hi; exact ((formF_none hf1).2.2 j i hj).1) (by decide) (Nat.le_trans hp.fi (by decide))
      rw [hls] at h
      refine h.mono ?_
      rintro e w' ⟨v, rfl, ⟨o, rfl, ho⟩, hb⟩
      obtain ⟨A, c, rfl, hi⟩ := i64_of_owns ho
      exact ⟨ls, A, c, hls, rfl, hi, hb⟩
    go_wp2_with fail
    refine kh.mono ?_
    rintro e w3 ⟨ls, A, c, hls, rfl, hi, hb⟩
    have H3 : Bx _ := ⟨And.intro (H2.out.1.step hb) (And.intro hls hi)⟩
    clear hb kh hls hi m0 m1 m2
    go_wp2
    go_ret2
    exact ⟨_, rfl, by unfold HtsOut; rw [HV.out]; exact ⟨ls, A, c, H3.out.2.1, rfl, H3.out.2.2.1, fun b off e => Nat.le_trans (by rw [HZ.out]; exact Nat.le_of_lt H2.out.1.box.lt) (H3.out.2.2.2 b off e)⟩, by rw [HZ.out]; exact H3.out.1.below⟩
end Go.Proofs.YtbcajmkmadgbhaaGreatDoor
