/- Verify: machines, Program. Conditions: code.table, the two tables of unicode/utf8 and errors.errorType hold what the program's text lays in them. -/
import Derived.Test.YtbcajmkmadgbhaaGreatDoorVrK
set_option linter.unusedSimpArgs false
set_option linter.unusedVariables false
namespace Go.Proofs.YtbcajmkmadgbhaaGreatDoor
open Go.RowKit
/-- a program's two machines, as cells -/
abbrev machsC (D : PrgD) (L : PLoc) : Array Value := #[.slice L.af D.filter.length L.cf, .bool true, .int .i64 0, .slice L.ao D.output.length L.co, .bool false, .int .i64 (D.filter.length : Nat)]
set_option maxRecDepth 100000 in
theorem machines_any (D : PrgD) (L : PLoc) (w : World) :
    Calls Tryz.prog 25 #[prgV D L] w fun e w' => ∃ b, e = .returned (.slice (some ⟨b, 0, none⟩) 2 2) ∧ w.heap.size ≤ b ∧ CB w' b (machsC D L) ∧ Below w.heap.size w w' := by
  have HB : Bx (PBox (w.alloc (.cells (prgC D L) 28)) w.heap.size D L ∧ Below w.heap.size w (w.alloc (.cells (prgC D L) 28))) := ⟨PBox.alloc w D L _, below1 _ _⟩
  go_enter Tryz.func25, Tryz.ntmps25
  go_upto_region 1 with (fail)
  generalize (w.alloc (.cells (prgC D L) 28)) = w0 at *
  generalize hS : w.heap.size = S at *
  have HZ : Bx (w.heap.size = S) := ⟨hS⟩
  clear hS
  have p12 := HB.out.1.cell 12 _ rfl
  have p13 := HB.out.1.cell 13 _ rfl
  go_wp2
  go_ret
  exact ⟨_, rfl, by rw [HZ.out]; exact Nat.le_of_lt HB.out.1.lt, CB.new w0 _ _, by rw [HZ.out]; exact HB.out.2.alloc (Nat.le_of_lt HB.out.1.lt) _⟩
/-- how often an item is emitted -/
def cntC (l : List InsD) (z : Int) : Nat := (l.filter fun i => i.c == 23 && i.a == z).length
def comN (l : List InsD) : Int → Option Int := fun z => if cntC l z = 0 then none else some (cntC l z : Int)
theorem comN_get (l : List InsD) (z : Int) : (comN l z).getD 0 = (cntC l z : Int) := by
  unfold comN
  split
  · rename_i h; rw [h]; rfl
  · rfl
theorem cntC_snoc (l : List InsD) (i : InsD) (z : Int) : cntC (l ++ [i]) z = cntC l z + if i.c == 23 && i.a == z then 1 else 0 := by
  unfold cntC
  rw [List.filter_append, List.length_append]
  cases h : (i.c == 23 && i.a == z) <;> simp [List.filter, h]
theorem comN_emit (l : List InsD) (i : InsD) (h : i.c = 23) : comN (l ++ [i]) = putF (comN l) i.a ((cntC l i.a : Int) + 1) := by
  funext z
  unfold comN putF
  rw [cntC_snoc, h]
  by_cases e : z = i.a
  · subst e
    simp
  · have : (i.a == z) = false := by simp; exact fun x => e x.symm
    rw [this, if_neg e]
    simp
theorem comN_other (l : List InsD) (i : InsD) (h : i.c ≠ 23) : comN (l ++ [i]) = comN l := by
  funext z
  unfold comN
  rw [cntC_snoc]
  have : (i.c == 23) = false := by simp [h]
  rw [this]
  simp
theorem cntC_le (l : List InsD) (z : Int) : cntC l z ≤ l.length := List.length_filter_le _ _
/-- what Program hands back -/
def verV (o : Option (Int × Option Nat)) : Value := match o with
  | none => .nilIface
  | some (c, none) => errV c
  | some (c, some n) => atV (n : Int) c
theorem verF_head {D : PrgD} (h : headB D = false) : verF D = some (192, none) := by
  unfold verF
  rw [if_neg (fun x => by rw [(headB_iff D).2 x] at h; cases h)]
theorem verF_form1 {D : PrgD} (h : headB D = true) {n : Nat} {c : Int} (hf : formF true D D.filter = some (n, c)) : verF D = some (c, some n) := by
  unfold verF
  rw [if_pos ((headB_iff D).1 h), hf]
theorem verF_form2 {D : PrgD} (h : headB D = true) {n : Nat} {c : Int} (h1 : formF true D D.filter = none) (hf : formF false D D.output = some (n, c)) : verF D = some (c, some (D.filter.length + n)) := by
  unfold verF
  rw [if_pos ((headB_iff D).1 h), h1, hf]
theorem verF_hei1 {D : PrgD} (h : headB D = true) (h1 : formF true D D.filter = none) (h2 : formF false D D.output = none) {n : Nat} (hh : heiF D.filter 0 hs0 = .inl n) : verF D = some (190, some n) := by
  unfold verF
  rw [if_pos ((headB_iff D).1 h), h1, h2, hh]
theorem verF_hei2 {D : PrgD} (h : headB D = true) (h1 : formF true D D.filter = none) (h2 : formF false D D.output = none) {l : List Int} (hh : heiF D.filter 0 hs0 = .inr l) {n : Nat} (hk : heiF D.output 0 hs0 = .inl n) : verF D = some (190, some (D.filter.length + n)) := by
  unfold verF
  rw [if_pos ((headB_iff D).1 h), h1, h2, hh, hk]
theorem verF_emit {D : PrgD} (h : headB D = true) (h1 : formF true D D.filter = none) (h2 : formF false D D.output = none) {l m : List Int} (hh : heiF D.filter 0 hs0 = .inr l) (hk : heiF D.output 0 hs0 = .inr m) : (EmitP D → verF D = none) ∧ (¬EmitP D → verF D = some (193, none)) := by
  unfold verF
  rw [if_pos ((headB_iff D).1 h), h1, h2, hh, hk]
  constructor
  · intro he; simp only; rw [if_pos he]
  · intro he; simp only; rw [if_neg he]
set_option maxHeartbeats 8000000 in
set_option maxRecDepth 100000 in
theorem program_any (D : PrgD) (L : PLoc) (w : World) (hM : PrgM w D L) (hB : PrgB D) (hG : GlobK w) (hT : TabU w) :
    Calls Tryz.prog 24 #[prgV D L] w fun e w' => e = .returned (verV (verF D)) ∧ Below w.heap.size w w' := by
  have hmm := @run_makeMap Tryz.prog
  have H0 : Bx _ := ⟨HdB.alloc w D L 28 hM hG⟩
  have HB : Bx _ := ⟨And.intro hB hT⟩
  obtain ⟨V, hV⟩ : ∃ V, V = verV (verF D) := ⟨_, rfl⟩
  rw [← hV]
  have HV : Bx _ := ⟨hV⟩
  clear hV hM hG hB hT
  go_enter Tryz.func24, Tryz.ntmps24
  go_upto_region 1 with (fail)
  generalize (w.alloc (.cells (prgC D L) 28)) = w0 at *
  generalize hS : w.heap.size = S at *
  have HZ : Bx (w.heap.size = S) := ⟨hS⟩
  clear hS
  have p0 := H0.out.box.cell 0 _ rfl
  have p1 := H0.out.box.cell 1 _ rfl
  have p2 := H0.out.box.cell 2 _ rfl
  have p3 := H0.out.box.cell 3 _ rfl
  have p4 := H0.out.box.cell 4 _ rfl
  have p5 := H0.out.box.cell 5 _ rfl
  have p6 := H0.out.box.cell 6 _ rfl
  have p7 := H0.out.box.cell 7 _ rfl
  have p8 := H0.out.box.cell 8 _ rfl
  have p9 := H0.out.box.cell 9 _ rfl
  have p10 := H0.out.box.cell 10 _ rfl
  have p11 := H0.out.box.cell 11 _ rfl
  have p12 := H0.out.box.cell 12 _ rfl
  have p13 := H0.out.box.cell 13 _ rfl
  have kh := head_any D L w0 H0.out.mem HB.out.1 H0.out.glob
  cases hh : headB D with
  | false =>
    rw [hh] at kh
    have HE : Bx (V = errV 192) := ⟨by rw [HV.out, verF_head hh]; rfl⟩
    clear hh
    go_wp2_with fail
    refine kh.mono ?_
    rintro e w1 ⟨rfl, hb⟩
    have H1 : Bx _ := ⟨H0.out.step hb⟩
    clear hb kh p0 p1 p2 p3 p4 p5 p6 p7 p8 p9 p10 p11 p12 p13
    go_wp2_with fail
    refine (new_any 192 _ (by decide)).mono ?_
    rintro e w2 ⟨rfl, rfl⟩
    go_wp2
    go_ret
    exact ⟨by rw [HE.out]; rfl, by rw [HZ.out]; exact H1.out.below⟩
  | true =>
    rw [hh] at kh
    have HH : Bx _ := ⟨hh⟩
    clear hh
    go_wp2_with fail
    refine kh.mono ?_
    rintro e w1 ⟨rfl, hb⟩
    have H1 : Bx _ := ⟨H0.out.step hb⟩
    clear hb kh p0 p1 p2 p3 p4 p5 p6 p7 p8 p9 p10 p11 p12 p13
    have p0 := H1.out.box.cell 0 _ rfl
    have p1 := H1.out.box.cell 1 _ rfl
    have p2 := H1.out.box.cell 2 _ rfl
    have p3 := H1.out.box.cell 3 _ rfl
    have p4 := H1.out.box.cell 4 _ rfl
    have p5 := H1.out.box.cell 5 _ rfl
    have p6 := H1.out.box.cell 6 _ rfl
    have p7 := H1.out.box.cell 7 _ rfl
    have p8 := H1.out.box.cell 8 _ rfl
    have p9 := H1.out.box.cell 9 _ rfl
    have p10 := H1.out.box.cell 10 _ rfl
    have p11 := H1.out.box.cell 11 _ rfl
    have p12 := H1.out.box.cell 12 _ rfl
    have p13 := H1.out.box.cell 13 _ rfl
    go_wp2_with fail
    refine (machines_any D L w1).mono ?_
    rintro e w2 ⟨mb, rfl, _, hcb, hb⟩
    have H2 : Bx _ := ⟨And.intro (H1.out.step hb) hcb⟩
    clear hb hcb p0 p1 p2 p3 p4 p5 p6 p7 p8 p9 p10 p11 p12 p13
    go_wp2_with fail
    have HP : Bx (HeadP D) := ⟨(headB_iff D).1 HH.out⟩
    go_loopw [21] (fun i wr => ∃ k : Nat, k ≤ 2 ∧ i = .int .i64 (k : Int) ∧ Bx (HdB w wr S D L ∧ CB wr mb (machsC D L) ∧ (1 ≤ k → formF true D D.filter = none) ∧ (2 ≤ k → formF false D D.output = none))) (fun i _ => 2 - (intOf i).toNat)
    case atStart => exact ⟨0, by omega, rfl, ⟨H2.out.1, H2.out.2, fun h => absurd h (by omega), fun h => absurd h (by omega)⟩⟩
    case round =>
      obtain ⟨k, hk, rfl, HI⟩ := hrel
      have hk3 : k = 0 ∨ k = 1 ∨ k = 2 := by omega
      rcases hk3 with rfl | rfl | rfl
      · have m0 : wr.cell? ⟨mb, 0, none⟩ = some (.slice L.af D.filter.length L.cf) := HI.out.2.1.at 0 _ rfl
        have m1 : wr.cell? ⟨mb, 1, none⟩ = some (.bool true) := HI.out.2.1.at 1 _ rfl
        have m2 : wr.cell? ⟨mb, 2, none⟩ = some (.int .i64 0) := HI.out.2.1.at 2 _ rfl
        have HC3 : Bx _ := ⟨CB.new wr #[.slice L.af D.filter.length L.cf, .bool true, .int .i64 0] 84⟩
        have H3 : Bx _ := ⟨And.intro (HI.out.1.step (below1 wr (.cells #[.slice L.af D.filter.length L.cf, .bool true, .int .i64 0] 84))) (HI.out.2.1.below (below1 wr (.cells #[.slice L.af D.filter.length L.cf, .bool true, .int .i64 0] 84)))⟩
        go_upto_region 6 with (fail)
        generalize (wr.alloc (.cells #[.slice L.af D.filter.length L.cf, .bool true, .int .i64 0] 84)) = w3 at *
        generalize wr.heap.size = b3 at *
        clear m0 m1 m2
        have b0 := HC3.out.at 0 _ rfl
        have b1 := HC3.out.at 1 _ rfl
        have b2 := HC3.out.at 2 _ rfl
        have kf := form_any L.af D.filter L.cf true 0 D L w3 H3.out.1.mem (HB.out.2.below (by rw [HZ.out]; exact H3.out.1.below)) H3.out.1.mem.filter HB.out.1.filter (by decide) (Nat.le_trans HP.out.fi (by decide))
        have p0 := H3.out.1.box.cell 0 _ rfl
        have p1 := H3.out.1.box.cell 1 _ rfl
        have p2 := H3.out.1.box.cell 2 _ rfl
        have p3 := H3.out.1.box.cell 3 _ rfl
        have p4 := H3.out.1.box.cell 4 _ rfl
        have p5 := H3.out.1.box.cell 5 _ rfl
        have p6 := H3.out.1.box.cell 6 _ rfl
        have p7 := H3.out.1.box.cell 7 _ rfl
        have p8 := H3.out.1.box.cell 8 _ rfl
        have p9 := H3.out.1.box.cell 9 _ rfl
        have p10 := H3.out.1.box.cell 10 _ rfl
        have p11 := H3.out.1.box.cell 11 _ rfl
        have p12 := H3.out.1.box.cell 12 _ rfl
        have p13 := H3.out.1.box.cell 13 _ rfl
        cases hf : formF true D D.filter with
        | some x =>
          obtain ⟨n, c⟩ := x
          rw [hf] at kf
          have HE : Bx (V = atV ((n : Int)) c) := ⟨by rw [HV.out, verF_form1 HH.out hf]; simp [verV]⟩
          have kf' : Calls Tryz.prog 77 #[machV L.af D.filter.length L.cf true 0, prgV D L] w3 fun e w' => e = .returned (atV (((0 : Nat) : Int) + (n : Int)) c) ∧ Below w3.heap.size w3 w' := kf
          clear hf kf
          go_wp2_with fail
          refine kf'.mono ?_
          rintro e w4 ⟨rfl, hb⟩
          have H4 : Bx _ := ⟨H3.out.1.step hb⟩
          clear hb kf' p0 p1 p2 p3 p4 p5 p6 p7 p8 p9 p10 p11 p12 p13
          go_wp2
          go_ret
          exact ⟨by rw [HE.out]; rfl, by rw [HZ.out]; exact H4.out.below⟩
        | none =>
          rw [hf] at kf
          have kf' : Calls Tryz.prog 77 #[machV L.af D.filter.length L.cf true 0, prgV D L] w3 fun e w' => e = .returned .nilIface ∧ Below w3.heap.size w3 w' := kf
          have HFN : Bx ((1 ≤ 1 → formF true D D.filter = none) ∧ (2 ≤ 1 → formF false D D.output = none)) := ⟨⟨fun _ => hf, fun h => absurd h (by omega)⟩⟩
          clear hf kf
          go_wp2_with fail
          refine kf'.mono ?_
          rintro e w4 ⟨rfl, hb⟩
          have H4 : Bx _ := ⟨And.intro (H3.out.1.step hb) (And.intro (H3.out.2.below hb) HFN.out)⟩
          clear hb kf' p0 p1 p2 p3 p4 p5 p6 p7 p8 p9 p10 p11 p12 p13
          go_wp2_with fail
          exact ⟨⟨1, by omega, rfl, H4⟩, by simp only [intOf]; omega⟩
      · have m0 : wr.cell? ⟨mb, 3, none⟩ = some (.slice L.ao D.output.length L.co) := HI.out.2.1.at 3 _ rfl
        have m1 : wr.cell? ⟨mb, 4, none⟩ = some (.bool false) := HI.out.2.1.at 4 _ rfl
        have m2 : wr.cell? ⟨mb, 5, none⟩ = some (.int .i64 (D.filter.length : Nat)) := HI.out.2.1.at 5 _ rfl
        have HC3 : Bx _ := ⟨CB.new wr #[.slice L.ao D.output.length L.co, .bool false, .int .i64 (D.filter.length : Nat)] 84⟩
        have H3 : Bx _ := ⟨And.intro (HI.out.1.step (below1 wr (.cells #[.slice L.ao D.output.length L.co, .bool false, .int .i64 (D.filter.length : Nat)] 84))) (HI.out.2.1.below (below1 wr (.cells #[.slice L.ao D.output.length L.co, .bool false, .int .i64 (D.filter.length : Nat)] 84)))⟩
        go_upto_region 6 with (fail)
        generalize (wr.alloc (.cells #[.slice L.ao D.output.length L.co, .bool false, .int .i64 (D.filter.length : Nat)] 84)) = w3 at *
        generalize wr.heap.size = b3 at *
        clear m0 m1 m2
        have b0 := HC3.out.at 0 _ rfl
        have b1 := HC3.out.at 1 _ rfl
        have b2 := HC3.out.at 2 _ rfl
        have kf := form_any L.ao D.output L.co false D.filter.length D L w3 H3.out.1.mem (HB.out.2.below (by rw [HZ.out]; exact H3.out.1.below)) H3.out.1.mem.output HB.out.1.output (Nat.le_trans HP.out.fi (by decide)) (Nat.le_trans HP.out.ou (by decide))
        have p0 := H3.out.1.box.cell 0 _ rfl
        have p1 := H3.out.1.box.cell 1 _ rfl
        have p2 := H3.out.1.box.cell 2 _ rfl
        have p3 := H3.out.1.box.cell 3 _ rfl
        have p4 := H3.out.1.box.cell 4 _ rfl
        have p5 := H3.out.1.box.cell 5 _ rfl
        have p6 := H3.out.1.box.cell 6 _ rfl
        have p7 := H3.out.1.box.cell 7 _ rfl
        have p8 := H3.out.1.box.cell 8 _ rfl
        have p9 := H3.out.1.box.cell 9 _ rfl
        have p10 := H3.out.1.box.cell 10 _ rfl
        have p11 := H3.out.1.box.cell 11 _ rfl
        have p12 := H3.out.1.box.cell 12 _ rfl
        have p13 := H3.out.1.box.cell 13 _ rfl
        cases hf : formF false D D.output with
        | some x =>
          obtain ⟨n, c⟩ := x
          rw [hf] at kf
          have HE : Bx (V = atV (((D.filter.length : Nat) : Int) + (n : Int)) c) := ⟨by rw [HV.out, verF_form2 HH.out (HI.out.2.2.1 (by omega)) hf]; simp [verV]⟩
          have kf' : Calls Tryz.prog 77 #[machV L.ao D.output.length L.co false (D.filter.length : Nat), prgV D L] w3 fun e w' => e = .returned (atV (((D.filter.length : Nat) : Int) + (n : Int)) c) ∧ Below w3.heap.size w3 w' := kf
          clear hf kf
          go_wp2_with fail
          refine kf'.mono ?_
          rintro e w4 ⟨rfl, hb⟩
          have H4 : Bx _ := ⟨H3.out.1.step hb⟩
          clear hb kf' p0 p1 p2 p3 p4 p5 p6 p7 p8 p9 p10 p11 p12 p13
          go_wp2
          go_ret
          exact ⟨by rw [HE.out]; rfl, by rw [HZ.out]; exact H4.out.below⟩
        | none =>
          rw [hf] at kf
          have kf' : Calls Tryz.prog 77 #[machV L.ao D.output.length L.co false (D.filter.length : Nat), prgV D L] w3 fun e w' => e = .returned .nilIface ∧ Below w3.heap.size w3 w' := kf
          have HFN : Bx ((1 ≤ 2 → formF true D D.filter = none) ∧ (2 ≤ 2 → formF false D D.output = none)) := ⟨⟨fun _ => HI.out.2.2.1 (by omega), fun _ => hf⟩⟩
          clear hf kf
          go_wp2_with fail
          refine kf'.mono ?_
          rintro e w4 ⟨rfl, hb⟩
          have H4 : Bx _ := ⟨And.intro (H3.out.1.step hb) (And.intro (H3.out.2.below hb) HFN.out)⟩
          clear hb kf' p0 p1 p2 p3 p4 p5 p6 p7 p8 p9 p10 p11 p12 p13
          go_wp2_with fail
          exact ⟨⟨2, by omega, rfl, H4⟩, by simp only [intOf]; omega⟩
      · have HF : Bx (formF true D D.filter = none ∧ formF false D D.output = none) := ⟨HI.out.2.2.1 (by omega), HI.out.2.2.2 (by omega)⟩
        have H5 : Bx _ := ⟨HI.out.1⟩
        clear HI
        have p0 := H5.out.box.cell 0 _ rfl
        have p1 := H5.out.box.cell 1 _ rfl
        have p2 := H5.out.box.cell 2 _ rfl
        have p3 := H5.out.box.cell 3 _ rfl
        have p4 := H5.out.box.cell 4 _ rfl
        have p5 := H5.out.box.cell 5 _ rfl
        have p6 := H5.out.box.cell 6 _ rfl
        have p7 := H5.out.box.cell 7 _ rfl
        have p8 := H5.out.box.cell 8 _ rfl
        have p9 := H5.out.box.cell 9 _ rfl
        have p10 := H5.out.box.cell 10 _ rfl
        have p11 := H5.out.box.cell 11 _ rfl
        have p12 := H5.out.box.cell 12 _ rfl
        have p13 := H5.out.box.cell 13 _ rfl
        go_wp2_with fail
        refine (machines_any D L wr).mono ?_
        rintro e w5 ⟨mb, rfl, _, hcb, hb⟩
        have H6 : Bx _ := ⟨And.intro (H5.out.step hb) hcb⟩
        clear hb hcb p0 p1 p2 p3 p4 p5 p6 p7 p8 p9 p10 p11 p12 p13
        go_wp2_with fail
        go_loopw [35] (fun i wr => ∃ k : Nat, k ≤ 2 ∧ i = .int .i64 (k : Int) ∧ Bx (HdB w wr S D L ∧ CB wr mb (machsC D L) ∧ (1 ≤ k → ∃ ls, heiF D.filter 0 hs0 = .inr ls) ∧ (2 ≤ k → ∃ ls, heiF D.output 0 hs0 = .inr ls))) (fun i _ => 2 - (intOf i).toNat)
        case atStart => exact ⟨0, by omega, rfl, ⟨H6.out.1, H6.out.2, fun h => absurd h (by omega), fun h => absurd h (by omega)⟩⟩
        case round =>
          obtain ⟨k, hk, rfl, HI⟩ := hrel
          have hk3 : k = 0 ∨ k = 1 ∨ k = 2 := by omega
          rcases hk3 with rfl | rfl | rfl
          · have m0 : wr.cell? ⟨mb, 0, none⟩ = some (.slice L.af D.filter.length L.cf) := HI.out.2.1.at 0 _ rfl
            have m1 : wr.cell? ⟨mb, 1, none⟩ = some (.bool true) := HI.out.2.1.at 1 _ rfl
            have m2 : wr.cell? ⟨mb, 2, none⟩ = some (.int .i64 0) := HI.out.2.1.at 2 _ rfl
            have HC3 : Bx _ := ⟨CB.new wr #[.slice L.af D.filter.length L.cf, .bool true, .int .i64 0] 84⟩
            have H3 : Bx _ := ⟨And.intro (HI.out.1.step (below1 wr (.cells #[.slice L.af D.filter.length L.cf, .bool true, .int .i64 0] 84))) (HI.out.2.1.below (below1 wr (.cells #[.slice L.af D.filter.length L.cf, .bool true, .int .i64 0] 84)))⟩
            go_upto_region 13 with (fail)
            generalize (wr.alloc (.cells #[.slice L.af D.filter.length L.cf, .bool true, .int .i64 0] 84)) = w3 at *
            generalize wr.heap.size = b3 at *
            clear m0 m1 m2
            have b0 := HC3.out.at 0 _ rfl
            have b1 := HC3.out.at 1 _ rfl
            have b2 := HC3.out.at 2 _ rfl
            have kf := heights_any L.af D.filter L.cf true 0 w3 H3.out.1.mem.filter HB.out.1.filter (fun i hi => by obtain ⟨j, hj⟩ := List.getElem?_of_mem hi; exact ((formF_none HF.out.1).2.2 j i hj).1) (by decide) (Nat.le_trans HP.out.fi (by decide))
            cases hh : heiF D.filter 0 hs0 with
            | inl n =>
              rw [hh] at kf
              have HE : Bx (V = atV ((n : Int)) 190) := ⟨by rw [HV.out, verF_hei1 HH.out HF.out.1 HF.out.2 hh]; simp [verV]⟩
              have kf' : Calls Tryz.prog 26 #[machV L.af D.filter.length L.cf true 0] w3 fun e w' => e = .returned (.tuple #[.slice none 0 0, atV (((0 : Nat) : Int) + (n : Int)) 190]) ∧ Below w3.heap.size w3 w' := kf.mono fun e w' h => by obtain ⟨v, h1, h2, h3⟩ := h; exact ⟨by rw [h1, show v = _ from h2], h3⟩
              clear hh kf
              go_wp2_with fail
              refine kf'.mono ?_
              rintro e w4 ⟨rfl, hb⟩
              have H4 : Bx _ := ⟨H3.out.1.step hb⟩
              clear hb kf'
              go_wp2
              go_ret
              exact ⟨by rw [HE.out]; rfl, by rw [HZ.out]; exact H4.out.below⟩
            | inr ls =>
              rw [hh] at kf
              have kf' : Calls Tryz.prog 26 #[machV L.af D.filter.length L.cf true 0] w3 fun e w' => ∃ o, e = .returned (.tuple #[o, .nilIface]) ∧ Below w3.heap.size w3 w' := kf.mono fun e w' h => by obtain ⟨v, h1, ⟨o, h2, _⟩, h3⟩ := h; exact ⟨o, by rw [h1, h2], h3⟩
              have HFN : Bx ((1 ≤ 1 → ∃ ls, heiF D.filter 0 hs0 = .inr ls) ∧ (2 ≤ 1 → ∃ ls, heiF D.output 0 hs0 = .inr ls)) := ⟨⟨fun _ => ⟨_, hh⟩, fun h => absurd h (by omega)⟩⟩
              clear hh kf
              go_wp2_with fail
              refine kf'.mono ?_
              rintro e w4 ⟨o, rfl, hb⟩
              have H4 : Bx _ := ⟨And.intro (H3.out.1.step hb) (And.intro (H3.out.2.below hb) HFN.out)⟩
              clear hb kf'
              go_wp2_with fail
              exact ⟨⟨1, by omega, rfl, H4⟩, by simp only [intOf]; omega⟩
          · have m0 : wr.cell? ⟨mb, 3, none⟩ = some (.slice L.ao D.output.length L.co) := HI.out.2.1.at 3 _ rfl
            have m1 : wr.cell? ⟨mb, 4, none⟩ = some (.bool false) := HI.out.2.1.at 4 _ rfl
            have m2 : wr.cell? ⟨mb, 5, none⟩ = some (.int .i64 (D.filter.length : Nat)) := HI.out.2.1.at 5 _ rfl
            have HC3 : Bx _ := ⟨CB.new wr #[.slice L.ao D.output.length L.co, .bool false, .int .i64 (D.filter.length : Nat)] 84⟩
            have H3 : Bx _ := ⟨And.intro (HI.out.1.step (below1 wr (.cells #[.slice L.ao D.output.length L.co, .bool false, .int .i64 (D.filter.length : Nat)] 84))) (HI.out.2.1.below (below1 wr (.cells #[.slice L.ao D.output.length L.co, .bool false, .int .i64 (D.filter.length : Nat)] 84)))⟩
            go_upto_region 13 with (fail)
            generalize (wr.alloc (.cells #[.slice L.ao D.output.length L.co, .bool false, .int .i64 (D.filter.length : Nat)] 84)) = w3 at *
            generalize wr.heap.size = b3 at *
            clear m0 m1 m2
            have b0 := HC3.out.at 0 _ rfl
            have b1 := HC3.out.at 1 _ rfl
            have b2 := HC3.out.at 2 _ rfl
            have kf := heights_any L.ao D.output L.co false D.filter.length w3 H3.out.1.mem.output HB.out.1.output (fun i hi => by obtain ⟨j, hj⟩ := List.getElem?_of_mem hi; exact ((formF_none HF.out.2).2.2 j i hj).1) (Nat.le_trans HP.out.fi (by decide)) (Nat.le_trans HP.out.ou (by decide))
            cases hh : heiF D.output 0 hs0 with
            | inl n =>
              rw [hh] at kf
              have HE : Bx (V = atV (((D.filter.length : Nat) : Int) + (n : Int)) 190) := ⟨by rw [HV.out, verF_hei2 HH.out HF.out.1 HF.out.2 (HI.out.2.2.1 (by omega)).choose_spec hh]; simp [verV]⟩
              have kf' : Calls Tryz.prog 26 #[machV L.ao D.output.length L.co false (D.filter.length : Nat)] w3 fun e w' => e = .returned (.tuple #[.slice none 0 0, atV (((D.filter.length : Nat) : Int) + (n : Int)) 190]) ∧ Below w3.heap.size w3 w' := kf.mono fun e w' h => by obtain ⟨v, h1, h2, h3⟩ := h; exact ⟨by rw [h1, show v = _ from h2], h3⟩
              clear hh kf
              go_wp2_with fail
              refine kf'.mono ?_
              rintro e w4 ⟨rfl, hb⟩
              have H4 : Bx _ := ⟨H3.out.1.step hb⟩
              clear hb kf'
              go_wp2
              go_ret
              exact ⟨by rw [HE.out]; rfl, by rw [HZ.out]; exact H4.out.below⟩
            | inr ls =>
              rw [hh] at kf
              have kf' : Calls Tryz.prog 26 #[machV L.ao D.output.length L.co false (D.filter.length : Nat)] w3 fun e w' => ∃ o, e = .returned (.tuple #[o, .nilIface]) ∧ Below w3.heap.size w3 w' := kf.mono fun e w' h => by obtain ⟨v, h1, ⟨o, h2, _⟩, h3⟩ := h; exact ⟨o, by rw [h1, h2], h3⟩
              have HFN : Bx ((1 ≤ 2 → ∃ ls, heiF D.filter 0 hs0 = .inr ls) ∧ (2 ≤ 2 → ∃ ls, heiF D.output 0 hs0 = .inr ls)) := ⟨⟨fun _ => HI.out.2.2.1 (by omega), fun _ => ⟨_, hh⟩⟩⟩
              clear hh kf
              go_wp2_with fail
              refine kf'.mono ?_
              rintro e w4 ⟨o, rfl, hb⟩
              have H4 : Bx _ := ⟨And.intro (H3.out.1.step hb) (And.intro (H3.out.2.below hb) HFN.out)⟩
              clear hb kf'
              go_wp2_with fail
              exact ⟨⟨2, by omega, rfl, H4⟩, by simp only [intOf]; omega⟩
          · have HL : Bx ((∃ ls, heiF D.filter 0 hs0 = .inr ls) ∧ (∃ ls, heiF D.output 0 hs0 = .inr ls)) := ⟨HI.out.2.2.1 (by omega), HI.out.2.2.2 (by omega)⟩
            have HVE : Bx ((EmitP D → V = .nilIface) ∧ (¬EmitP D → V = errV 193)) := ⟨by
              obtain ⟨⟨l1, h1⟩, ⟨l2, h2⟩⟩ := HL.out
              have h := verF_emit HH.out HF.out.1 HF.out.2 h1 h2
              exact ⟨fun he => by rw [HV.out, h.1 he]; rfl, fun he => by rw [HV.out, h.2 he]; rfl⟩⟩
            have HM7 : Bx _ := ⟨And.intro (HI.out.1.step (below1 wr (.map #[] 0))) (And.intro (MapAt.made Tryz.prog wr 3) HI.out.1.box.lt)⟩
            clear HI HV
            obtain ⟨Aou, hAou⟩ : ∃ x, L.ao = x := ⟨_, rfl⟩
            have p13 : (wr.alloc (.map #[] 0)).cell? ⟨S, 13, none⟩ = some (.slice Aou D.output.length L.co) := by rw [← hAou]; exact HM7.out.1.box.cell 13 _ rfl
            have HAou : Bx (L.ao = Aou) := ⟨hAou⟩
            clear hAou
            go_wp2_with fail
            generalize hw7 : wr.alloc (.map #[] 0) = w7 at *
            generalize wr.heap.size = EB at *
            clear hw7
            go_loopw [52] (fun i wr => ∃ k : Nat, k ≤ D.output.length ∧ i = .int .i64 (k : Int) ∧ Bx (HdB w wr S D L ∧ MapAt Tryz.prog wr 3 EB k (comF (comN (D.output.take k))) ∧ S < EB)) (fun i _ => D.output.length - (intOf i).toNat)
            case atStart => exact ⟨0, by omega, rfl, ⟨HM7.out.1, HM7.out.2.1.same (fun l => by rw [List.take_zero]; rw [show comN [] = fun _ => none from rfl, comF_none]), HM7.out.2.2⟩⟩
            case round =>
              obtain ⟨k, hk, rfl, HI⟩ := hrel
              clear p13
              have hn := HI.out.1.mem.output.n
              have hn2 := HP.out.ou
              by_cases hlt : k < D.output.length
              · have hrw := HI.out.1.mem.output
                rw [HAou.out] at hrw
                obtain ⟨b, off, rfl, hrow⟩ := hrw.row (by omega)
                have hx : D.output[k]? = some D.output[k] := List.getElem?_eq_getElem hlt
                have r0 : wr.cell? ⟨b, off + k * 3, none⟩ = some (.int .u8 (D.output[k].c : Int)) := hrow k _ hx 0 _ rfl
                have r1 : wr.cell? ⟨b, off + k * 3 + 1, none⟩ = some (.int .i64 D.output[k].a) := hrow k _ hx 1 _ rfl
                have r2 : wr.cell? ⟨b, off + k * 3 + 2, none⟩ = some (.int .i64 D.output[k].b) := hrow k _ hx 2 _ rfl
                have HD : Bx (D.output.take (k + 1) = D.output.take k ++ [D.output[k]]) := ⟨List.take_succ_eq_append_getElem hlt⟩
                have HX : Bx _ := ⟨HB.out.1.output _ (List.getElem_mem hlt)⟩
                have HC : Bx (∀ z, cntC (D.output.take k) z ≤ k) := ⟨fun z => Nat.le_trans (cntC_le _ _) (List.length_take_le _ _)⟩
                generalize D.output[k] = i at *
                obtain ⟨c, a, bb⟩ := i
                clear hrow hx hrw
                have H8 : Bx _ := ⟨And.intro (HI.out.1.step (below1 wr (.cells #[.int .u8 (c : Int), .int .i64 a, .int .i64 bb] 94))) (HI.out.2.1.below (below1 wr (.cells #[.int .u8 (c : Int), .int .i64 a, .int .i64 bb] 94)))⟩
                have hsz : wr.heap.size < (wr.alloc (.cells #[.int .u8 (c : Int), .int .i64 a, .int .i64 bb] 94)).heap.size := by simp only [heap_push, Array.size_push]; omega
                have HC8 : Bx _ := ⟨CB.new wr #[.int .u8 (c : Int), .int .i64 a, .int .i64 bb] 94⟩
                by_cases hc : c = 23
                · have hc1 : (((c : Int) == 23) : Bool) = true := by simp [hc]
                  have HEM : Bx (comN (D.output.take (k + 1)) = putF (comN (D.output.take k)) a ((cntC (D.output.take k) a : Int) + 1)) := ⟨by rw [HD.out]; exact comN_emit _ _ hc⟩
                  clear hc
                  go_upto_region 21 with (fail)
                  generalize (wr.alloc (.cells #[.int .u8 (c : Int), .int .i64 a, .int .i64 bb] 94)) = w8 at *
                  generalize wr.heap.size = b8 at *
                  have i0 := HC8.out.at 0 _ rfl
                  have i1 := HC8.out.at 1 _ rfl
                  have hl := (com_look (z := a) H8.out.2 HX.out.a).2
                  rw [comN_get] at hl
                  have hcn := HC.out a
                  obtain ⟨w9, hrun, hm9, ht9⟩ := H8.out.2.store lawI Tryz.underlying122 (by unfold maxLen; omega) (.int .i64 ((cntC (D.output.take k) a : Int) + 1)) (keyI HX.out.a)
                  have HN : Bx (HdB w w9 S D L ∧ MapAt Tryz.prog w9 3 EB (k + 1) (comF (comN (D.output.take (k + 1)))) ∧ S < EB) := ⟨H8.out.1.turn HI.out.2.2 ht9.grown, by rw [HEM.out, comF_put]; exact hm9, HI.out.2.2⟩
                  clear hm9 ht9
                  generalize cntC (D.output.take k) a = C at *
                  go_wp2_with fail
                  exact ⟨⟨k + 1, by omega, by rw [Int.natCast_succ], HN⟩, by simp only [intOf]; omega⟩
                · have hc1 : (((c : Int) == 23) : Bool) = false := by simp; omega
                  have HN : Bx (HdB w (wr.alloc (.cells #[.int .u8 (c : Int), .int .i64 a, .int .i64 bb] 94)) S D L ∧ MapAt Tryz.prog (wr.alloc (.cells #[.int .u8 (c : Int), .int .i64 a, .int .i64 bb] 94)) 3 EB (k + 1) (comF (comN (D.output.take (k + 1)))) ∧ S < EB) := ⟨H8.out.1, by rw [HD.out, comN_other _ _ hc]; exact H8.out.2.mono (by omega), HI.out.2.2⟩
                  clear hc
                  go_wp2_with fail
                  exact ⟨⟨k + 1, by omega, by rw [Int.natCast_succ], HN⟩, by simp only [intOf]; omega⟩
              · obtain rfl : k = D.output.length := by omega
                have HI2 : Bx (HdB w wr S D L ∧ MapAt Tryz.prog wr 3 EB D.output.length (comF (comN D.output)) ∧ S < EB) := ⟨by have h := HI.out; rwa [List.take_length] at h⟩
                have p6 := HI2.out.1.box.cell 6 _ rfl
                clear HI
                go_wp2_with fail
                go_loopw [68] (fun i wr => ∃ k : Nat, k ≤ D.aliases.length ∧ i = .int .i64 (k : Int) ∧ Bx (HdB w wr S D L ∧ MapAt Tryz.prog wr 3 EB D.output.length (comF (comN D.output)) ∧ ∀ n, n < k → countE n D.output = 1)) (fun i _ => D.aliases.length - (intOf i).toNat)
                case atStart => exact ⟨0, by omega, rfl, ⟨HI2.out.1, HI2.out.2.1, fun n h => absurd h (by omega)⟩⟩
                case round =>
                  obtain ⟨k, hk, rfl, HJ⟩ := hrel
                  clear p6 HI2
                  have hn2 := HP.out.a2
                  have hn3 := HP.out.ou
                  by_cases hlt : k < D.aliases.length
                  · have hl := (com_look (z := (k : Int)) HJ.out.2.1 (by unfold i64B; omega)).2
                    rw [comN_get] at hl
                    have hcn := cntC_le D.output (k : Int)
                    by_cases hc : countE k D.output = 1
                    · have HN : Bx (∀ n, n < k + 1 → countE n D.output = 1) := ⟨fun n h => by
                        rcases Nat.lt_or_ge n k with h1 | h1
                        · exact HJ.out.2.2 n h1
                        · have : n = k := by omega
                          subst this; exact hc⟩
                      have hc1 : (((cntC D.output (k : Int) : Nat) : Int) != 1) = false := by rw [show cntC D.output (k : Int) = 1 from hc]; rfl
                      have hc2 : (!(((cntC D.output (k : Int) : Nat) : Int) == 1)) = false := hc1
                      have HN2 : Bx (HdB w wr S D L ∧ MapAt Tryz.prog wr 3 EB D.output.length (comF (comN D.output)) ∧ ∀ n, n < k + 1 → countE n D.output = 1) := ⟨HJ.out.1, HJ.out.2.1, HN.out⟩
                      generalize cntC D.output (k : Int) = C at *
                      clear hc
                      go_wp2_with fail
                      exact ⟨⟨k + 1, by omega, by rw [Int.natCast_succ], HN2⟩, by simp only [intOf]; omega⟩
                    · have HE : Bx (V = errV 193) := ⟨HVE.out.2 fun h => hc (h k hlt)⟩
                      have hc1 : (((cntC D.output (k : Int) : Nat) : Int) != 1) = true := by
                        have : cntC D.output (k : Int) ≠ 1 := hc
                        simp; omega
                      have hc2 : (!(((cntC D.output (k : Int) : Nat) : Int) == 1)) = true := hc1
                      have HBB : Bx (Below S w wr) := ⟨HJ.out.1.below⟩
                      generalize cntC D.output (k : Int) = C at *
                      clear hc HJ
                      go_wp2_with fail
                      refine (new_any 193 _ (by decide)).mono ?_
                      rintro e w9 ⟨rfl, rfl⟩
                      go_wp2
                      go_ret
                      exact ⟨by rw [HE.out]; rfl, by rw [HZ.out]; exact HBB.out⟩
                  · obtain rfl : k = D.aliases.length := by omega
                    have HE : Bx (V = .nilIface) := ⟨HVE.out.1 fun n h => HJ.out.2.2 n h⟩
                    have HBB : Bx (Below S w wr) := ⟨HJ.out.1.below⟩
                    clear HJ
                    go_wp2_with fail
                    go_ret
                    exact ⟨by rw [HE.out]; rfl, by rw [HZ.out]; exact HBB.out⟩
end Go.Proofs.YtbcajmkmadgbhaaGreatDoor
