/- Verify: Heights, Rises, Dead: rows of the caller's own. -/
import Derived.Test.YtbcajmkmadgbhaaGreatDoorVrDr
import Derived.Test.YtbcajmkmadgbhaaGreatDoorVrBd
import Derived.Test.YtbcajmkmadgbhaaGreatDoorAli
set_option linter.unusedSimpArgs false
set_option linter.unusedVariables false
namespace Go.Proofs.YtbcajmkmadgbhaaGreatDoor
open Go.RowKit
open Go.Maps (Keyed)
/-- a row that is handed back, nobody else's; and an error, or none -/
def OwnOut (w w' : World) (v : Value) : Prop := ∃ A c L x, v = .tuple #[.slice A (L : List Int).length c, x] ∧ RowG encI 1 3 w' (.slice A L.length c) L ∧ (∀ g, gB (.slice A L.length c) = some g → w.heap.size ≤ g) ∧ L.length ≤ 65536
theorem rowG_of_stk {w : World} {B : Option Nat} {v : Value} {l : List Int} (h : StkI w B v l) : ∃ A c, v = .slice A l.length c ∧ RowG encI 1 3 w (.slice A l.length c) l ∧ ∀ g, gB (.slice A l.length c) = some g → B = some g := by
  rcases h.ex with ⟨rfl, rfl, _⟩ | ⟨g, cap, cur, h1, rfl, h3, h4, h5, h6, h7⟩
  · exact ⟨none, 0, rfl, Or.inr ⟨rfl, none, rfl⟩, fun g e => by cases e⟩
  · refine ⟨_, cap, rfl, ?_, fun g' e => ?_⟩
    · rcases Nat.eq_zero_or_pos cap with h0 | h0
      · subst h0
        have hl : l = [] := List.length_eq_zero_iff.1 (by omega)
        subst hl
        exact Or.inr ⟨rfl, _, rfl⟩
      · exact Or.inl ⟨g, cap, cur, h0, rfl, h3, h4, h5, by omega, by rw [Nat.mul_one, h7, flat_int]; rfl⟩
    · cases cap with
      | zero => cases e
      | succ c => rw [h1]; exact e
set_option maxHeartbeats 4000000 in
set_option maxRecDepth 100000 in
theorem vheights_own (D : PrgD) (L : PLoc) (w : World) (hM : PrgM w D L) (hB : PrgB D) (hG : GlobK w) (hT : TabU w) :
    Calls Tryz.prog 6 #[prgV D L] w fun e w' => ∃ v, e = .returned v ∧ OwnOut w w' v ∧ Below w.heap.size w w' := by
  have H0 : Bx _ := ⟨HdB.alloc w D L 28 hM hG⟩
  have HB : Bx _ := ⟨And.intro hB hT⟩
  clear hM hG hB hT
  go_enter Tryz.func6, Tryz.ntmps6
  go_upto_region 1 with (fail)
  generalize (w.alloc (.cells (prgC D L) 28)) = w0 at *
  generalize hS : w.heap.size = S at *
  have HZ : Bx (w.heap.size = S) := ⟨hS⟩
  clear hS
  have p0 := H0.out.box.cell 0 _ rfl
  have p1 := H0.out.box.cell 1 _ rfl
  have p2 := H0.out.box.cell 2 _ rfl
  have p3 := H0.out.box.cell 3 _ rfl
  have p4 := H0.out.box.cell 4 _ rfl
  have p5 := H0.out.box.cell 5 _ rfl
  have p6 := H0.out.box.cell 6 _ rfl
  have p7 := H0.out.box.cell 7 _ rfl
  have p8 := H0.out.box.cell 8 _ rfl
  have p9 := H0.out.box.cell 9 _ rfl
  have p10 := H0.out.box.cell 10 _ rfl
  have p11 := H0.out.box.cell 11 _ rfl
  have p12 := H0.out.box.cell 12 _ rfl
  have p13 := H0.out.box.cell 13 _ rfl
  have kp := program_any D L w0 H0.out.mem HB.out.1 H0.out.glob (HB.out.2.below (by rw [HZ.out]; exact H0.out.below))
  cases hv : verF D with
  | some x =>
    obtain ⟨c, o⟩ := x
    obtain ⟨T, u, hu⟩ := verV_some (o := o) (verF_pos hv)
    rw [hv, hu] at kp
    have HE : Bx (∀ w1, OwnOut w w1 (.tuple #[.slice none 0 0, .iface T u])) := ⟨fun w1 => ⟨none, 0, [], _, rfl, Or.inr ⟨rfl, none, rfl⟩, (fun g e => by cases e), by simp⟩⟩
    clear hv hu
    go_wp2_with fail
    refine kp.mono ?_
    rintro e w1 ⟨rfl, hb⟩
    have H1 : Bx _ := ⟨H0.out.step hb⟩
    clear hb kp p0 p1 p2 p3 p4 p5 p6 p7 p8 p9 p10 p11 p12 p13
    go_wp2
    go_ret2
    exact ⟨_, rfl, HE.out _, by rw [HZ.out]; exact H1.out.below⟩
  | none =>
    rw [hv] at kp
    have HV : Bx _ := ⟨hv⟩
    clear hv
    go_wp2_with fail
    refine kp.mono ?_
    rintro e w1 ⟨rfl, hb⟩
    have H1 : Bx _ := ⟨H0.out.step hb⟩
    clear hb kp p0 p1 p2 p3 p4 p5 p6 p7 p8 p9 p10 p11 p12 p13
    simp only [verV]
    have p0 := H1.out.box.cell 0 _ rfl
    have p1 := H1.out.box.cell 1 _ rfl
    have p2 := H1.out.box.cell 2 _ rfl
    have p3 := H1.out.box.cell 3 _ rfl
    have p4 := H1.out.box.cell 4 _ rfl
    have p5 := H1.out.box.cell 5 _ rfl
    have p6 := H1.out.box.cell 6 _ rfl
    have p7 := H1.out.box.cell 7 _ rfl
    have p8 := H1.out.box.cell 8 _ rfl
    have p9 := H1.out.box.cell 9 _ rfl
    have p10 := H1.out.box.cell 10 _ rfl
    have p11 := H1.out.box.cell 11 _ rfl
    have p12 := H1.out.box.cell 12 _ rfl
    have p13 := H1.out.box.cell 13 _ rfl
    go_wp2_with fail
    refine (machines_any D L w1).mono ?_
    rintro e w2 ⟨mb, rfl, _, hcb, hb⟩
    have H2 : Bx _ := ⟨And.intro (H1.out.step hb) hcb⟩
    clear hb hcb p0 p1 p2 p3 p4 p5 p6 p7 p8 p9 p10 p11 p12 p13
    have m0 : w2.cell? ⟨mb, 0, none⟩ = some (.slice L.af D.filter.length L.cf) := H2.out.2.at 0 _ rfl
    have m1 : w2.cell? ⟨mb, 1, none⟩ = some (.bool true) := H2.out.2.at 1 _ rfl
    have m2 : w2.cell? ⟨mb, 2, none⟩ = some (.int .i64 0) := H2.out.2.at 2 _ rfl
    have kh : Calls Tryz.prog 26 #[machV L.af D.filter.length L.cf true 0] w2 fun e w' => ∃ ls A c, heiF D.filter 0 hs0 = .inr ls ∧ e = .returned (.tuple #[.slice A ls.length c, .nilIface]) ∧ (RowG encI 1 3 w' (.slice A ls.length c) ls ∧ (∀ g, gB (.slice A ls.length c) = some g → w2.heap.size ≤ g) ∧ ls.length ≤ 65536) ∧ Below w2.heap.size w2 w' := by
      obtain ⟨hp, hf1, hf2, ⟨ls, hls⟩, _⟩ := verF_none HV.out
      have h := heights_any L.af D.filter L.cf true 0 w2 H2.out.1.mem.filter HB.out.1.filter (fun i hi => by obtain ⟨j, hj⟩ := List.getElem?_of_mem hi; exact ((formF_none hf1).2.2 j i hj).1) (by decide) (Nat.le_trans hp.fi (by decide))
      rw [hls] at h
      refine h.mono ?_
      rintro e w' ⟨v, rfl, ⟨o, rfl, ho⟩, hb⟩
      have hln := (hei_ok (formF_none hf1).1 hls).len
      have ho2 := ho
      rw [← flat_int] at ho2
      obtain ⟨q1, q2⟩ := RowG.ofOwn (enc := encI) ho2 rfl
      obtain ⟨A, c, rfl, _⟩ := i64_of_owns ho
      exact ⟨ls, A, c, hls, rfl, ⟨q1, q2, by rw [hln]; exact hp.fi⟩, hb⟩
    go_wp2_with fail
    refine kh.mono ?_
    rintro e w3 ⟨ls, A, c, hls, rfl, hi, hb⟩
    have H3 : Bx _ := ⟨And.intro (H2.out.1.step hb) (And.intro hls hi)⟩
    clear hb kh hls hi m0 m1 m2
    go_wp2
    go_ret2
    exact ⟨_, rfl, ⟨A, c, ls, _, rfl, H3.out.2.2.1, fun g e => Nat.le_trans (by rw [HZ.out]; exact Nat.le_of_lt H2.out.1.box.lt) (H3.out.2.2.2.1 g e), H3.out.2.2.2.2⟩, by rw [HZ.out]; exact H3.out.1.below⟩
set_option maxHeartbeats 4000000 in
set_option maxRecDepth 100000 in
theorem vrises_own (D : PrgD) (L : PLoc) (w : World) (hM : PrgM w D L) (hB : PrgB D) (hG : GlobK w) (hT : TabU w) :
    Calls Tryz.prog 7 #[prgV D L] w fun e w' => ∃ v, e = .returned v ∧ OwnOut w w' v ∧ Below w.heap.size w w' := by
  have H0 : Bx _ := ⟨HdB.alloc w D L 28 hM hG⟩
  have HB : Bx _ := ⟨And.intro hB hT⟩
  clear hM hG hB hT
  go_enter Tryz.func7, Tryz.ntmps7
  go_upto_region 1 with (fail)
  generalize (w.alloc (.cells (prgC D L) 28)) = w0 at *
  generalize hS : w.heap.size = S at *
  have HZ : Bx (w.heap.size = S) := ⟨hS⟩
  clear hS
  have p0 := H0.out.box.cell 0 _ rfl
  have p1 := H0.out.box.cell 1 _ rfl
  have p2 := H0.out.box.cell 2 _ rfl
  have p3 := H0.out.box.cell 3 _ rfl
  have p4 := H0.out.box.cell 4 _ rfl
  have p5 := H0.out.box.cell 5 _ rfl
  have p6 := H0.out.box.cell 6 _ rfl
  have p7 := H0.out.box.cell 7 _ rfl
  have p8 := H0.out.box.cell 8 _ rfl
  have p9 := H0.out.box.cell 9 _ rfl
  have p10 := H0.out.box.cell 10 _ rfl
  have p11 := H0.out.box.cell 11 _ rfl
  have p12 := H0.out.box.cell 12 _ rfl
  have p13 := H0.out.box.cell 13 _ rfl
  have kp := program_any D L w0 H0.out.mem HB.out.1 H0.out.glob (HB.out.2.below (by rw [HZ.out]; exact H0.out.below))
  cases hv : verF D with
  | some x =>
    obtain ⟨c, o⟩ := x
    obtain ⟨T, u, hu⟩ := verV_some (o := o) (verF_pos hv)
    rw [hv, hu] at kp
    have HE : Bx (∀ w1, OwnOut w w1 (.tuple #[.slice none 0 0, .iface T u])) := ⟨fun w1 => ⟨none, 0, [], _, rfl, Or.inr ⟨rfl, none, rfl⟩, (fun g e => by cases e), by simp⟩⟩
    clear hv hu
    go_wp2_with fail
    refine kp.mono ?_
    rintro e w1 ⟨rfl, hb⟩
    have H1 : Bx _ := ⟨H0.out.step hb⟩
    clear hb kp p0 p1 p2 p3 p4 p5 p6 p7 p8 p9 p10 p11 p12 p13
    go_wp2
    go_ret2
    exact ⟨_, rfl, HE.out _, by rw [HZ.out]; exact H1.out.below⟩
  | none =>
    rw [hv] at kp
    have HV : Bx _ := ⟨hv⟩
    clear hv
    go_wp2_with fail
    refine kp.mono ?_
    rintro e w1 ⟨rfl, hb⟩
    have H1 : Bx _ := ⟨H0.out.step hb⟩
    clear hb kp p0 p1 p2 p3 p4 p5 p6 p7 p8 p9 p10 p11 p12 p13
    simp only [verV]
    have p0 := H1.out.box.cell 0 _ rfl
    have p1 := H1.out.box.cell 1 _ rfl
    have p2 := H1.out.box.cell 2 _ rfl
    have p3 := H1.out.box.cell 3 _ rfl
    have p4 := H1.out.box.cell 4 _ rfl
    have p5 := H1.out.box.cell 5 _ rfl
    have p6 := H1.out.box.cell 6 _ rfl
    have p7 := H1.out.box.cell 7 _ rfl
    have p8 := H1.out.box.cell 8 _ rfl
    have p9 := H1.out.box.cell 9 _ rfl
    have p10 := H1.out.box.cell 10 _ rfl
    have p11 := H1.out.box.cell 11 _ rfl
    have p12 := H1.out.box.cell 12 _ rfl
    have p13 := H1.out.box.cell 13 _ rfl
    go_wp2_with fail
    refine (machines_any D L w1).mono ?_
    rintro e w2 ⟨mb, rfl, _, hcb, hb⟩
    have H2 : Bx _ := ⟨And.intro (H1.out.step hb) hcb⟩
    clear hb hcb p0 p1 p2 p3 p4 p5 p6 p7 p8 p9 p10 p11 p12 p13
    have m0 : w2.cell? ⟨mb, 3, none⟩ = some (.slice L.ao D.output.length L.co) := H2.out.2.at 3 _ rfl
    have m1 : w2.cell? ⟨mb, 4, none⟩ = some (.bool false) := H2.out.2.at 4 _ rfl
    have m2 : w2.cell? ⟨mb, 5, none⟩ = some (.int .i64 (D.filter.length : Nat)) := H2.out.2.at 5 _ rfl
    have kh : Calls Tryz.prog 26 #[machV L.ao D.output.length L.co false (D.filter.length : Nat)] w2 fun e w' => ∃ ls A c, heiF D.output 0 hs0 = .inr ls ∧ e = .returned (.tuple #[.slice A ls.length c, .nilIface]) ∧ (RowG encI 1 3 w' (.slice A ls.length c) ls ∧ (∀ g, gB (.slice A ls.length c) = some g → w2.heap.size ≤ g) ∧ ls.length ≤ 65536) ∧ Below w2.heap.size w2 w' := by
      obtain ⟨hp, hf1, hf2, _, ⟨ls, hls⟩, _⟩ := verF_none HV.out
      have h := heights_any L.ao D.output L.co false D.filter.length w2 H2.out.1.mem.output HB.out.1.output (fun i hi => by obtain ⟨j, hj⟩ := List.getElem?_of_mem hi; exact ((formF_none hf2).2.2 j i hj).1) (Nat.le_trans hp.fi (by decide)) (Nat.le_trans hp.ou (by decide))
      rw [hls] at h
      refine h.mono ?_
      rintro e w' ⟨v, rfl, ⟨o, rfl, ho⟩, hb⟩
      have hln := (hei_ok (formF_none hf2).1 hls).len
      have ho2 := ho
      rw [← flat_int] at ho2
      obtain ⟨q1, q2⟩ := RowG.ofOwn (enc := encI) ho2 rfl
      obtain ⟨A, c, rfl, _⟩ := i64_of_owns ho
      exact ⟨ls, A, c, hls, rfl, ⟨q1, q2, by rw [hln]; exact hp.ou⟩, hb⟩
    go_wp2_with fail
    refine kh.mono ?_
    rintro e w3 ⟨ls, A, c, hls, rfl, hi, hb⟩
    have H3 : Bx _ := ⟨And.intro (H2.out.1.step hb) (And.intro hls hi)⟩
    clear hb kh hls hi m0 m1 m2
    go_wp2
    go_ret2
    exact ⟨_, rfl, ⟨A, c, ls, _, rfl, H3.out.2.2.1, fun g e => Nat.le_trans (by rw [HZ.out]; exact Nat.le_of_lt H2.out.1.box.lt) (H3.out.2.2.2.1 g e), H3.out.2.2.2.2⟩, by rw [HZ.out]; exact H3.out.1.below⟩
set_option maxHeartbeats 4000000 in
set_option maxRecDepth 100000 in
theorem vdead_own (D : PrgD) (L : PLoc) (w : World) (hM : PrgM w D L) (hB : PrgB D) (hG : GlobK w) (hT : TabU w) :
    Calls Tryz.prog 8 #[prgV D L] w fun e w' => ∃ v, e = .returned v ∧ OwnOut w w' v ∧ Below w.heap.size w w' := by
  have hmm := @run_makeMap Tryz.prog
  have H0 : Bx _ := ⟨HdB.alloc w D L 28 hM hG⟩
  have HB : Bx _ := ⟨And.intro hB hT⟩
  clear hM hG hB hT
  go_enter Tryz.func8, Tryz.ntmps8
  go_upto_region 1 with (fail)
  generalize (w.alloc (.cells (prgC D L) 28)) = w0 at *
  generalize hS : w.heap.size = S at *
  have HZ : Bx (w.heap.size = S) := ⟨hS⟩
  clear hS
  have p0 := H0.out.box.cell 0 _ rfl
  have p1 := H0.out.box.cell 1 _ rfl
  have p2 := H0.out.box.cell 2 _ rfl
  have p3 := H0.out.box.cell 3 _ rfl
  have p4 := H0.out.box.cell 4 _ rfl
  have p5 := H0.out.box.cell 5 _ rfl
  have p6 := H0.out.box.cell 6 _ rfl
  have p7 := H0.out.box.cell 7 _ rfl
  have p8 := H0.out.box.cell 8 _ rfl
  have p9 := H0.out.box.cell 9 _ rfl
  have p10 := H0.out.box.cell 10 _ rfl
  have p11 := H0.out.box.cell 11 _ rfl
  have p12 := H0.out.box.cell 12 _ rfl
  have p13 := H0.out.box.cell 13 _ rfl
  have kp := program_any D L w0 H0.out.mem HB.out.1 H0.out.glob (HB.out.2.below (by rw [HZ.out]; exact H0.out.below))
  cases hv : verF D with
  | some x =>
    obtain ⟨c, o⟩ := x
    obtain ⟨T, u, hu⟩ := verV_some (o := o) (verF_pos hv)
    rw [hv, hu] at kp
    have HE : Bx (∀ w1, OwnOut w w1 (.tuple #[.slice none 0 0, .iface T u])) := ⟨fun w1 => ⟨none, 0, [], _, rfl, Or.inr ⟨rfl, none, rfl⟩, (fun g e => by cases e), by simp⟩⟩
    clear hv hu
    go_wp2_with fail
    refine kp.mono ?_
    rintro e w1 ⟨rfl, hb⟩
    have H1 : Bx _ := ⟨H0.out.step hb⟩
    clear hb kp p0 p1 p2 p3 p4 p5 p6 p7 p8 p9 p10 p11 p12 p13
    go_wp2
    go_ret2
    exact ⟨_, rfl, HE.out _, by rw [HZ.out]; exact H1.out.below⟩
  | none =>
    rw [hv] at kp
    have HV : Bx _ := ⟨hv⟩
    clear hv
    go_wp2_with fail
    refine kp.mono ?_
    rintro e w1 ⟨rfl, hb⟩
    have H1 : Bx _ := ⟨H0.out.step hb⟩
    clear hb kp p0 p1 p2 p3 p4 p5 p6 p7 p8 p9 p10 p11 p12 p13
    simp only [verV]
    go_upto_region 4 with (fail)
    have HM0 : MapAt Tryz.prog ((w1.alloc (.map #[] 0)).alloc (.cells #[] 95)) 3 w1.heap.size 0 (ahdV (fun _ => none) fun _ => .nilIface) := ((MapAt.made Tryz.prog w1 3).alloc _).same (fun l => by unfold ahdV; split <;> rfl)
    obtain ⟨w3, hrun, hm3, ht3⟩ := HM0.store lawI Tryz.underlying89 (by unfold maxLen; omega) (.slice (some ⟨w1.heap.size + 1, 0, none⟩) 0 0) (keyI (z := 0) (by unfold i64B; omega))
    have HA3 : Bx (AhdAt w3 w1.heap.size 1 ahd0 none ∧ Below w1.heap.size w1 w3) := ⟨AhdAt.put (s := []) HM0 (fun j t h => by cases h) RowL.nil (fun _ _ _ _ => by simp) hm3 ht3.grown, (below2 w1 (.map #[] 0) (.cells #[] 95)).grown ht3.grown (below2 _ _ _).size (fun g e => by injection e with e; omega)⟩
    clear HM0 hm3 ht3
    go_upto_region 7 with (fail)
    have h3 := HA3.out.2.size
    have h1 := H1.out.box.lt
    have HI : Bx (DdB w (w3.alloc (.cells #[.map (some w1.heap.size)] 89)) S w1.heap.size w3.heap.size 1 D L ahd0 none [] (.slice none 0 0)) := ⟨⟨(H1.out.step HA3.out.2).step (below1 _ _), HA3.out.1.below (below1 _ _), CB.new w3 _ _, StkAt.nil _ _ _, h1, by have := HA3.out.1.lt; omega, fun g e => by cases e⟩⟩
    obtain ⟨hs0, hP0, hlen⟩ := pass_of HV.out
    have HP : Bx _ := ⟨hP0⟩
    clear hP0
    clear h1 h3 H1 hrun HA3 hmm
    generalize (w3.alloc (.cells #[.map (some w1.heap.size)] 89)) = w4 at *
    generalize w3.heap.size = AB at *
    generalize w1.heap.size = MB at *
    obtain ⟨Afi, hAfi⟩ : ∃ x, L.af = x := ⟨_, rfl⟩
    have p12 : w4.cell? ⟨S, 12, none⟩ = some (.slice Afi D.filter.length L.cf) := by rw [← hAfi]; exact HI.out.hd.box.cell 12 _ rfl
    have HAF : Bx _ := ⟨hAfi⟩
    clear hAfi
    go_wp2_with fail
    go_loopw [7, 27] (fun o i wr => ∃ (j cnt : Nat) (B : Option Nat) (d : List Int), j ≤ D.filter.length ∧ cnt ≤ 1 + 2 * j ∧ d.length ≤ j ∧ i = .int .i64 (j : Int) ∧ Bx (DdB w wr S MB AB cnt D L (ahdF D.filter j) B d o ∧ deadF (D.filter.drop j) j (ahdF D.filter j) d = deadL D)) (fun _ i _ => D.filter.length - (intOf i).toNat)
    case atStart => exact ⟨0, 1, none, [], by omega, by omega, by simp, rfl, ⟨HI.out, rfl⟩⟩
    case round =>
      obtain ⟨j, cnt, B, d, hj, hcnt, hdl, rfl, HR⟩ := hrel
      by_cases hlt : j < D.filter.length
      · obtain ⟨pb, off, hA, hrow⟩ := HR.out.1.hd.mem.filter.row (by omega)
        have hx : D.filter[j]? = some D.filter[j] := List.getElem?_eq_getElem hlt
        have hA2 : Afi = some ⟨pb, off, none⟩ := by rw [← HAF.out]; exact hA
        subst hA2
        have HF : Bx _ := ⟨And.intro (deadF_round hx d) (And.intro hx hA)⟩
        clear hA
        have HIB : Bx (InsB D.filter[j]) := ⟨HB.out.1.filter _ (List.getElem_mem hlt)⟩
        have a0 : wr.cell? ⟨pb, off + j * 3, none⟩ = some (.int .u8 (D.filter[j].c : Int)) := hrow j _ hx 0 _ rfl
        have a1 : wr.cell? ⟨pb, off + j * 3 + 1, none⟩ = some (.int .i64 D.filter[j].a) := hrow j _ hx 1 _ rfl
        have a2 : wr.cell? ⟨pb, off + j * 3 + 2, none⟩ = some (.int .i64 D.filter[j].b) := hrow j _ hx 2 _ rfl
        clear hrow hx
        generalize D.filter[j] = i at *
        obtain ⟨ic, ia, ib⟩ := i
        simp only [] at a0 a1 a2
        have HC1 : Bx _ := ⟨CB.new wr #[.int .u8 (ic : Int), .int .i64 ia, .int .i64 ib] 94⟩
        have HR5 : Bx _ := ⟨HR.out.1.step (below1 wr (.cells #[.int .u8 (ic : Int), .int .i64 ia, .int .i64 ib] 94))⟩
        have HRD : Bx _ := ⟨HR.out.2⟩
        go_upto_region 10 with (fail)
        generalize (wr.alloc (.cells #[.int .u8 (ic : Int), .int .i64 ia, .int .i64 ib] 94)) = w5 at *
        have HIM : Bx (wr.heap.size = MB → False) := ⟨fun e => by have := HR.out.1.ah.lt; omega⟩
        generalize wr.heap.size = IB at *
        clear a0 a1 a2 HR
        obtain ⟨V, m1, m2⟩ := HR5.out.ah.ex
        have hlk := (m1.look lawI Tryz.underlying89 (zeroTs w5) (keyI (z := (j : Int)) (by unfold i64B; omega))).1
        have e0 : ahdV (ahdF D.filter j) V (.int .i64 j) = (ahdF D.filter j j).map fun _ => V j := rfl
        rw [e0] at hlk
        have hcl := HR5.out.cl.at 0 _ rfl
        cases hs : ahdF D.filter j (j : Int) with
        | none =>
          rw [hs] at hlk
          simp only [Option.map_none, Option.getD_none, Option.isSome_none] at hlk
          have HN : Bx (deadS D.filter j d = d ++ [(j : Int)] ∧ ahdF D.filter (j + 1) = ahdF D.filter j) := ⟨by unfold deadS; rw [hs], ahdF_dead HF.out.2.1 hs⟩
          clear hs e0 m1 m2
          go_upto_region 12 with (fail)
          obtain ⟨i0, hi, hiz, hi1, hi2⟩ := info_parts (show (Tryz.prog.info? 3).map (fun i => (i.zero, i.size, i.bytes)) = some (some (.int .i64 0), 1, 8) by kernel_rfl)
          have HI0 : Bx (Tryz.prog.info? 3 = some i0 ∧ i0.zero = some (.int .i64 0) ∧ i0.size = 1 ∧ i0.bytes = 8) := ⟨hi, hiz, hi1, hi2⟩
          clear hi hiz hi1 hi2
          have HO6 : Bx _ := ⟨HR5.out.step (below1 w5 (.cells #[.int .i64 (j : Int)] 3))⟩
          go_wp2_with (first | (at_builtin; refine wpList_stk_push (f := fun z : Int => Value.int .i64 z) rfl _ _ 62 rfl Tryz.underlying62 HI0.out.1 HI0.out.2.1 HI0.out.2.2.1 HI0.out.2.2.2 rfl rfl HO6.out.own ⟨w5.heap.size, 0, none⟩ 1 (j : Int) rfl (newsI w5 _ _ 0 _ rfl) rfl (by unfold maxLen; omega) (by omega) ?_; intro B' v3 w3 hst htu hB'; have HN3 : Bx _ := ⟨HO6.out.more htu hB' hst⟩; clear hst htu hB') | fail)
          exact ⟨⟨j + 1, cnt, B', d ++ [(j : Int)], by omega, by omega, by rw [List.length_append, List.length_singleton]; omega, by rw [Int.natCast_succ], ⟨by rw [HN.out.2]; exact HN3.out, by rw [← HN.out.1, ← HF.out.1]; exact HRD.out⟩⟩, by simp only [intOf]; omega⟩
        | some s =>
          rw [hs] at hlk
          simp only [Option.map_some, Option.getD_some, Option.isSome_some] at hlk
          obtain ⟨A, c, hV, hrow, hnB⟩ := m2 _ s hs
          rw [hV] at hlk
          have HN : Bx (deadS D.filter j d = d ∧ ahdF D.filter (j + 1) = stepD ⟨ic, ia, ib⟩ j (ahdF D.filter j) s) := ⟨by unfold deadS; rw [hs], ahdF_live HF.out.2.1 hs⟩
          have HS : Bx _ := ⟨dead_round HP.out HF.out.2.1 hs⟩
          have HRW : Bx _ := ⟨hrow⟩
          clear e0 m1 m2 hV hrow hnB hs
          obtain ⟨tp, htp⟩ : ∃ t, topT s = t := ⟨_, rfl⟩
          have htp3 : tp = 0 ∨ tp = 1 ∨ tp = 2 := by
            rw [← htp]
            unfold topT
            split
            · exact HS.out.thr.get _
            · exact Or.inl rfl
          have HTP : Bx _ := ⟨htp⟩
          clear htp
          go_upto_if 46 with (fail)
          go_cut [10, 12] from 28 to 87 (fun st g wx => st = .slice A s.length c ∧ g = .int .i64 tp ∧ wx = w5)
          case first =>
            by_cases hsl : 0 < s.length
            · obtain ⟨tb, toff, rfl, hcells⟩ := row_one HRW.out hsl
              obtain ⟨e2, he2⟩ : ∃ e, s.length - 1 = e := ⟨_, rfl⟩
              have r2 : w5.cell? ⟨tb, toff + e2, none⟩ = some (.int .i64 tp) := by
                have h1 : topT s = s.getD e2 0 := by unfold topT; rw [if_pos hsl, he2]
                rw [← HTP.out, h1]
                exact hcells e2 _ (by rw [List.getD_eq_getElem?_getD, List.getElem?_eq_getElem (show e2 < s.length by omega)]; rfl)
              have hs1 : (s.length : Int) - 1 = (e2 : Int) := by omega
              have hel : e2 < s.length := by omega
              have hsm : s.length ≤ 1000 := HS.out.small
              have hem : e2 ≤ 1000 := by omega
              have hb1 : decide ((s.length : Int) > 0) = true := decide_eq_true (by omega)
              have hb2 : decide ((0 : Int) < (s.length : Int)) = true := decide_eq_true (by omega)
              have hb3 : decide (0 < s.length) = true := decide_eq_true (by omega)
              clear hcells he2
              go_wp2_with fail
              go_meet
              exact ⟨rfl, rfl, rfl⟩
            · have htz : tp = 0 := by rw [← HTP.out]; unfold topT; rw [if_neg hsl]
              subst htz
              have h0 : s.length = 0 := by omega
              clear hsl
              go_wp2_with fail
              go_meet
              exact ⟨by rw [h0], rfl, rfl⟩
          case rest =>
            obtain ⟨rfl, rfl, rfl⟩ := hcut
            obtain ⟨u, hu⟩ : ∃ u, sureT ic s = u := ⟨_, rfl⟩
            have hu3 : u = 0 ∨ u = 1 ∨ u = 2 := by
              rw [← hu]
              unfold sureT
              split
              · exact notT_thr _
              · rw [HTP.out]; exact htp3
            have HU : Bx _ := ⟨hu⟩
            clear hu
            have q0 := HC1.out.at 0 _ rfl
            have q1 := HC1.out.at 1 _ rfl
            have q2 := HC1.out.at 2 _ rfl
            go_wp2_with fail
            refine (behind_any ic ia ib A s c wc HRW.out HS.out.small HS.out.thr HS.out.c1 HS.out.c2 HS.out.takes).mono ?_
            rintro e w6 ⟨v, rfl, ⟨A2, c2, rfl, hrow2, hnew2⟩, hb⟩
            obtain ⟨N, hN⟩ : ∃ N, behT ic s = N := ⟨_, rfl⟩
            rw [hN] at hrow2
            have HNN : Bx _ := ⟨hN⟩
            rw [hN]
            have H6 : Bx _ := ⟨And.intro (HR5.out.step hb) (And.intro (HC1.out.below hb) (And.intro hrow2 fun b off e => And.intro (hnew2 b off e) (fun g (hg : B = some g) => HR5.out.own.lt g hg)))⟩
            have hnl : N.length ≤ 1000 := by rw [← hN]; exact HS.out.bs
            clear hb hrow2 hnew2 hN q0 q1 q2 hlk
            have q0 := H6.out.2.1.at 0 _ rfl
            have q1 := H6.out.2.1.at 1 _ rfl
            have kj := fun x => jumps_any ic x
            obtain ⟨Jn, hJ⟩ : ∃ b, jumpC ic = b := ⟨_, rfl⟩
            rw [hJ] at kj
            have HJ : Bx _ := ⟨hJ⟩
            clear hJ
            have hBne : ∀ b off, A2 = some ⟨b, off, none⟩ → 0 < N.length → B ≠ some b := fun b off e _ eB => by
              have h1 := H6.out.2.2.2 b off e
              have := h1.2 b eB
              omega
            have HBN : Bx _ := ⟨hBne⟩
            clear hBne
            go_upto_if 59 with (fail)
            go_cut [14] from 57 to 87 (fun g wx => g = .int .i64 u ∧ wx = w6)
            case first =>
              have hE : ((ic : Int) == 10) = (ic == 10) := beq_code ic 10
              obtain ⟨X, hX⟩ : ∃ X, (ic == 10) = X := ⟨_, rfl⟩
              rw [hX] at hE
              have HX : Bx _ := ⟨hX⟩
              clear hX
              cases X
              · go_wp2_with fail
                go_meet
                have : u = tp := by rw [← HU.out, ← HTP.out]; unfold sureT; rw [if_neg (by have := HX.out; simpa using this)]
                exact ⟨by rw [this], rfl⟩
              · go_wp2_with fail
                refine (tnot_any tp _ htp3).mono ?_
                rintro e w7 ⟨rfl, rfl⟩
                go_wp2_with fail
                go_meet
                have : u = notT tp := by rw [← HU.out, ← HTP.out]; unfold sureT; rw [if_pos (by have := HX.out; simpa using this)]
                exact ⟨by rw [this], rfl⟩
            case rest =>
              obtain ⟨rfl, rfl⟩ := hcut
              go_wp2_with fail
              refine (kj _).mono ?_
              rintro e w7 ⟨rfl, rfl⟩
              cases Jn
              · go_wp2_with fail
                refine (kj _).mono ?_
                rintro e w7 ⟨rfl, rfl⟩
                go_wp2_with fail
                refine (come_any ((j : Int) + 1) A2 N c2 AB MB cnt (ahdF D.filter j) wc (by unfold i64B; omega) (H6.out.1.cl.at 0 _ rfl) H6.out.1.ah H6.out.1.own.lt H6.out.2.2.1 HBN.out (fun a ha => by rw [← HNN.out]; exact HS.out.f a ha) hnl (by omega)).mono ?_
                rintro e w8 ⟨rfl, ha, ht⟩
                have HZ8 : Bx (DdB w w8 S MB AB (cnt + 1) D L (ahdF D.filter (j + 1)) B d _) := ⟨by
                  rw [HN.out.2]
                  unfold stepD
                  rw [if_neg (by rw [HJ.out]; simp), HNN.out]
                  exact H6.out.1.come ht ha⟩
                clear ha ht
                go_wp2_with fail
                exact ⟨⟨j + 1, cnt + 1, B, d, by omega, by omega, by omega, by rw [Int.natCast_succ], ⟨HZ8.out, by rw [← HN.out.1, ← HF.out.1]; exact HRD.out⟩⟩, by simp only [intOf]; omega⟩
              · have hjI := HS.out.j1 HJ.out
                rcases hu3 with rfl | rfl | rfl
                · go_wp2_with fail
                  refine (come_any ia A2 N c2 AB MB cnt (ahdF D.filter j) wc HIB.out.a (H6.out.1.cl.at 0 _ rfl) H6.out.1.ah H6.out.1.own.lt H6.out.2.2.1 HBN.out (fun a ha => by rw [← HNN.out]; exact hjI a ha) hnl (by omega)).mono ?_
                  rintro e w8 ⟨rfl, ha, ht⟩
                  have H8 : Bx _ := ⟨And.intro (H6.out.1.come ht ha) (And.intro (show I64L w8 A2 N from RowL.noMapT H6.out.2.2.1 H6.out.1.ah ht) (CB.turned H6.out.2.1 ht (fun hx => by simp at hx; exact (HIM.out hx).elim)))⟩
                  clear ha ht q0 q1
                  have q0 := H8.out.2.2.at 0 _ rfl
                  go_wp2_with fail
                  refine (kj _).mono ?_
                  rintro e w9 ⟨rfl, rfl⟩
                  go_wp2_with fail
                  refine (come_any ((j : Int) + 1) A2 N c2 AB MB (cnt + 1) (comeT (ahdF D.filter j) ia N) w8 (by unfold i64B; omega) (H8.out.1.cl.at 0 _ rfl) H8.out.1.ah H8.out.1.own.lt H8.out.2.1 HBN.out (fun a ha => by rw [← HNN.out] at ha ⊢; exact HS.out.j2 HJ.out a ha) hnl (by omega)).mono ?_
                  rintro e w10 ⟨rfl, ha, ht⟩
                  have HZ8 : Bx (DdB w w10 S MB AB (cnt + 2) D L (ahdF D.filter (j + 1)) B d _) := ⟨by
                    rw [HN.out.2]
                    unfold stepD
                    rw [if_pos HJ.out, if_neg (by rw [HU.out]; simp), if_neg (by rw [HU.out]; simp), HNN.out]
                    exact H8.out.1.come ht ha⟩
                  clear ha ht
                  go_wp2_with fail
                  exact ⟨⟨j + 1, cnt + 2, B, d, by omega, by omega, by omega, by rw [Int.natCast_succ], ⟨HZ8.out, by rw [← HN.out.1, ← HF.out.1]; exact HRD.out⟩⟩, by simp only [intOf]; omega⟩
                · go_wp2_with fail
                  refine (come_any ia A2 N c2 AB MB cnt (ahdF D.filter j) wc HIB.out.a (H6.out.1.cl.at 0 _ rfl) H6.out.1.ah H6.out.1.own.lt H6.out.2.2.1 HBN.out (fun a ha => by rw [← HNN.out]; exact hjI a ha) hnl (by omega)).mono ?_
                  rintro e w8 ⟨rfl, ha, ht⟩
                  have H8 : Bx _ := ⟨And.intro (H6.out.1.come ht ha) (CB.turned H6.out.2.1 ht (fun hx => by simp at hx; exact (HIM.out hx).elim))⟩
                  clear ha ht q0 q1
                  have q0 := H8.out.2.at 0 _ rfl
                  go_wp2_with fail
                  refine (kj _).mono ?_
                  rintro e w9 ⟨rfl, rfl⟩
                  have HZ8 : Bx (DdB w w8 S MB AB (cnt + 1) D L (ahdF D.filter (j + 1)) B d _) := ⟨by
                    rw [HN.out.2]
                    unfold stepD
                    rw [if_pos HJ.out, if_pos HU.out, HNN.out]
                    exact H8.out.1⟩
                  go_wp2_with fail
                  exact ⟨⟨j + 1, cnt + 1, B, d, by omega, by omega, by omega, by rw [Int.natCast_succ], ⟨HZ8.out, by rw [← HN.out.1, ← HF.out.1]; exact HRD.out⟩⟩, by simp only [intOf]; omega⟩
                · go_wp2_with fail
                  refine (kj _).mono ?_
                  rintro e w7 ⟨rfl, rfl⟩
                  go_wp2_with fail
                  refine (come_any ((j : Int) + 1) A2 N c2 AB MB cnt (ahdF D.filter j) wc (by unfold i64B; omega) (H6.out.1.cl.at 0 _ rfl) H6.out.1.ah H6.out.1.own.lt H6.out.2.2.1 HBN.out (fun a ha => by rw [← HNN.out]; exact HS.out.f a ha) hnl (by omega)).mono ?_
                  rintro e w8 ⟨rfl, ha, ht⟩
                  have HZ8 : Bx (DdB w w8 S MB AB (cnt + 1) D L (ahdF D.filter (j + 1)) B d _) := ⟨by
                    rw [HN.out.2]
                    unfold stepD
                    rw [if_pos HJ.out, if_neg (by rw [HU.out]; simp), if_pos HU.out, HNN.out]
                    exact H6.out.1.come ht ha⟩
                  clear ha ht
                  go_wp2_with fail
                  exact ⟨⟨j + 1, cnt + 1, B, d, by omega, by omega, by omega, by rw [Int.natCast_succ], ⟨HZ8.out, by rw [← HN.out.1, ← HF.out.1]; exact HRD.out⟩⟩, by simp only [intOf]; omega⟩
      · have hd : d = deadL D := by
          have h := HR.out.2
          rw [show j = D.filter.length by omega, deadF_last] at h
          exact h
        obtain ⟨A, c, rfl, hrow, hnew⟩ := rowG_of_stk HR.out.1.own
        have HE : Bx (OwnOut w wr (.tuple #[.slice A d.length c, .nilIface])) := ⟨⟨A, c, d, _, rfl, hrow, fun g e => by have := HR.out.1.bo g (hnew g e); have := HR.out.1.sm; have := HR.out.1.ab; have := HZ.out; omega, by omega⟩⟩
        clear hrow hnew hd
        go_wp2
        go_ret2
        exact ⟨_, rfl, HE.out, by rw [HZ.out]; exact HR.out.1.hd.below⟩
end Go.Proofs.YtbcajmkmadgbhaaGreatDoor
