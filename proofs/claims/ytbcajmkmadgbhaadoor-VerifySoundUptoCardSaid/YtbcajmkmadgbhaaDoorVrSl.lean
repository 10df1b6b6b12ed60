/- The statement VerifySound. Conditions: code.table, the two tables of unicode/utf8 and errors.errorType hold what the program's text lays in them. -/
import Derived.Test.YtbcajmkmadgbhaaDoorVrSr
import Derived.Test.YtbcajmkmadgbhaaDoorVrBd
import Derived.Test.YtbcajmkmadgbhaaDoorVrU
set_option linter.unusedSimpArgs false
set_option linter.unusedVariables false
namespace Go.Proofs.YtbcajmkmadgbhaaDoor
open Go.RowKit
/-- what the law's loops know: the program, and the four rows -/
structure SnB (w wr : World) (S : Nat) (D : PrgD) (L : PLoc) (Ah Ar Ai Ad : Option Addr) (ls r h : List Int) : Prop where
  hd : HdB w wr S D L
  hh : I64L wr Ah ls
  rr : I64L wr Ar r
  hi : I64L wr Ai h
  dd : I64L wr Ad (deadL D)
theorem SnB.step {w wr w' : World} {S : Nat} {D : PrgD} {L : PLoc} {Ah Ar Ai Ad : Option Addr} {ls r h : List Int} (k : SnB w wr S D L Ah Ar Ai Ad ls r h) (hb : Below wr.heap.size wr w') : SnB w w' S D L Ah Ar Ai Ad ls r h :=
  ⟨k.hd.step hb, k.hh.below hb, k.rr.below hb, k.hi.below hb, k.dd.below hb⟩
theorem i64_at {w : World} {A : Option Addr} {l : List Int} (h : I64L w A l) {i : Nat} {x : Int} (hx : l[i]? = some x) : ∃ b off, A = some ⟨b, off, none⟩ ∧ w.cell? ⟨b, off + i, none⟩ = some (.int .i64 x) := by
  obtain ⟨b, off, e, hr⟩ := row_one h (by have := (List.getElem?_eq_some_iff.1 hx).1; omega)
  exact ⟨b, off, e, hr i x hx⟩
theorem dead_not {D : PrgD} {m : Nat} (hm : ahdF D.filter m m ≠ none) : ∀ (j : Nat) (x : Int), (deadL D)[j]? = some x → x ≠ (m : Int) := by
  intro j x hx e
  have h0 : (D.filter.drop 0) = D.filter := rfl
  rcases deadF_mem (L := D.filter) D.filter.length 0 [] (by omega) (by omega) x (by
    show x ∈ deadF (D.filter.drop 0) 0 (ahdF D.filter 0) []
    rw [h0]
    exact List.mem_of_getElem? hx) with h | ⟨m', _, _, h3, h4⟩
  · cases h
  · rw [e] at h3
    have h5 : m' = m := by omega
    subst h5
    exact hm h4
set_option maxHeartbeats 8000000 in
set_option maxRecDepth 100000 in
theorem sound_law (D : PrgD) (L : PLoc) (T : List Bool) (At : Option Addr) (ct : Nat) (w : World) (hM : PrgM w D L) (hB : PrgB D) (hG : GlobK w) (hT : TabU w) (hTr : BoolL w At T) :
    Calls Tryd.prog 5 #[prgV D L, .slice At T.length ct] w fun e w' => e = .returned (.bool true) ∧ Below w.heap.size w w' := by
  have H0 : Bx _ := ⟨HdB.alloc w D L 28 hM hG⟩
  have HB : Bx _ := ⟨And.intro hB (And.intro hT hTr)⟩
  clear hM hG hB hT hTr
  go_enter Tryd.func5, Tryd.ntmps5
  go_upto_region 1 with (fail)
  generalize (w.alloc (.cells (prgC D L) 28)) = w0 at *
  generalize hS : w.heap.size = S at *
  have HZ : Bx (w.heap.size = S) := ⟨hS⟩
  clear hS
  have p0 := H0.out.box.cell 0 _ rfl
  have p1 := H0.out.box.cell 1 _ rfl
  have p2 := H0.out.box.cell 2 _ rfl
  have p3 := H0.out.box.cell 3 _ rfl
  have p4 := H0.out.box.cell 4 _ rfl
  have p5 := H0.out.box.cell 5 _ rfl
  have p6 := H0.out.box.cell 6 _ rfl
  have p7 := H0.out.box.cell 7 _ rfl
  have p8 := H0.out.box.cell 8 _ rfl
  have p9 := H0.out.box.cell 9 _ rfl
  have p10 := H0.out.box.cell 10 _ rfl
  have p11 := H0.out.box.cell 11 _ rfl
  have p12 := H0.out.box.cell 12 _ rfl
  have p13 := H0.out.box.cell 13 _ rfl
  have kp := program_any D L w0 H0.out.mem HB.out.1 H0.out.glob (HB.out.2.1.below (by rw [HZ.out]; exact H0.out.below))
  cases hv : verF D with
  | some x =>
    obtain ⟨c, o⟩ := x
    obtain ⟨Ty, u, hu⟩ := verV_some (o := o) (verF_pos hv)
    rw [hv, hu] at kp
    clear hv hu
    go_wp2_with fail
    refine kp.mono ?_
    rintro e w1 ⟨rfl, hb⟩
    have H1 : Bx _ := ⟨H0.out.step hb⟩
    clear hb kp p0 p1 p2 p3 p4 p5 p6 p7 p8 p9 p10 p11 p12 p13
    go_wp2_with fail
    refine (live_any w1 H1.out.glob (HB.out.2.1.below (by rw [HZ.out]; exact H1.out.below))).mono ?_
    rintro e w2 ⟨rfl, hb⟩
    have H2 : Bx _ := ⟨H1.out.step hb⟩
    clear hb
    go_wp2
    go_ret
    exact ⟨rfl, by rw [HZ.out]; exact H2.out.below⟩
  | none =>
    rw [hv] at kp
    have HV : Bx _ := ⟨hv⟩
    clear hv
    simp only [verV] at kp
    go_wp2_with fail
    refine kp.mono ?_
    rintro e w1 ⟨rfl, hb⟩
    have H1 : Bx _ := ⟨H0.out.step hb⟩
    clear hb kp p0 p1 p2 p3 p4 p5 p6 p7 p8 p9 p10 p11 p12 p13
    obtain ⟨hs, hP0, hlen⟩ := pass_of HV.out
    have HP : Bx _ := ⟨hP0⟩
    clear hP0
    have p0 := H1.out.box.cell 0 _ rfl
    have p1 := H1.out.box.cell 1 _ rfl
    have p2 := H1.out.box.cell 2 _ rfl
    have p3 := H1.out.box.cell 3 _ rfl
    have p4 := H1.out.box.cell 4 _ rfl
    have p5 := H1.out.box.cell 5 _ rfl
    have p6 := H1.out.box.cell 6 _ rfl
    have p7 := H1.out.box.cell 7 _ rfl
    have p8 := H1.out.box.cell 8 _ rfl
    have p9 := H1.out.box.cell 9 _ rfl
    have p10 := H1.out.box.cell 10 _ rfl
    have p11 := H1.out.box.cell 11 _ rfl
    have p12 := H1.out.box.cell 12 _ rfl
    have p13 := H1.out.box.cell 13 _ rfl
    go_wp2_with fail
    refine (vheights_any D L w1 H1.out.mem HB.out.1 H1.out.glob (HB.out.2.1.below (by rw [HZ.out]; exact H1.out.below))).mono ?_
    rintro e w2 ⟨v, rfl, hho, hb⟩
    unfold HtsOut at hho
    rw [HV.out] at hho
    obtain ⟨ls, Ah, ch, hls, rfl, hrow, _⟩ := hho
    have hls2 : ls = hs := by have h := HP.out.hei; rw [hls] at h; injection h
    subst hls2
    have H2 : Bx _ := ⟨And.intro (H1.out.step hb) hrow⟩
    clear hb hrow hls p0 p1 p2 p3 p4 p5 p6 p7 p8 p9 p10 p11 p12 p13
    have p0 := H2.out.1.box.cell 0 _ rfl
    have p1 := H2.out.1.box.cell 1 _ rfl
    have p2 := H2.out.1.box.cell 2 _ rfl
    have p3 := H2.out.1.box.cell 3 _ rfl
    have p4 := H2.out.1.box.cell 4 _ rfl
    have p5 := H2.out.1.box.cell 5 _ rfl
    have p6 := H2.out.1.box.cell 6 _ rfl
    have p7 := H2.out.1.box.cell 7 _ rfl
    have p8 := H2.out.1.box.cell 8 _ rfl
    have p9 := H2.out.1.box.cell 9 _ rfl
    have p10 := H2.out.1.box.cell 10 _ rfl
    have p11 := H2.out.1.box.cell 11 _ rfl
    have p12 := H2.out.1.box.cell 12 _ rfl
    have p13 := H2.out.1.box.cell 13 _ rfl
    have kb := vbound_any D L w2 H2.out.1.mem HB.out.1 H2.out.1.glob (HB.out.2.1.below (by rw [HZ.out]; exact H2.out.1.below))
    have hbv : bndV D = .tuple #[.int .i64 (D.filter.length : Nat), .int .i64 (D.output.length : Nat), .nilIface] := by unfold bndV; rw [HV.out]
    rw [hbv] at kb
    clear hbv
    go_wp2_with fail
    refine kb.mono ?_
    rintro e w3 ⟨rfl, hb⟩
    have H3 : Bx _ := ⟨And.intro (H2.out.1.step hb) (H2.out.2.below hb)⟩
    clear hb kb p0 p1 p2 p3 p4 p5 p6 p7 p8 p9 p10 p11 p12 p13
    have p0 := H3.out.1.box.cell 0 _ rfl
    have p1 := H3.out.1.box.cell 1 _ rfl
    have p2 := H3.out.1.box.cell 2 _ rfl
    have p3 := H3.out.1.box.cell 3 _ rfl
    have p4 := H3.out.1.box.cell 4 _ rfl
    have p5 := H3.out.1.box.cell 5 _ rfl
    have p6 := H3.out.1.box.cell 6 _ rfl
    have p7 := H3.out.1.box.cell 7 _ rfl
    have p8 := H3.out.1.box.cell 8 _ rfl
    have p9 := H3.out.1.box.cell 9 _ rfl
    have p10 := H3.out.1.box.cell 10 _ rfl
    have p11 := H3.out.1.box.cell 11 _ rfl
    have p12 := H3.out.1.box.cell 12 _ rfl
    have p13 := H3.out.1.box.cell 13 _ rfl
    go_wp2_with fail
    refine (vdead_any D L w3 H3.out.1.mem HB.out.1 H3.out.1.glob (HB.out.2.1.below (by rw [HZ.out]; exact H3.out.1.below))).mono ?_
    rintro e w4 ⟨v, rfl, hdo, hb⟩
    unfold DeaOut at hdo
    rw [HV.out] at hdo
    obtain ⟨Ad, cd, rfl, hrow, _⟩ := hdo
    have H4 : Bx _ := ⟨And.intro (H3.out.1.step hb) (And.intro (H3.out.2.below hb) hrow)⟩
    clear hb hrow p0 p1 p2 p3 p4 p5 p6 p7 p8 p9 p10 p11 p12 p13
    have p12 := H4.out.1.box.cell 12 _ rfl
    go_wp2_with fail
    refine (run_any D.filter ls L.af L.cf T At ct w4 HP.out hlen H4.out.1.mem.filter HB.out.1.filter (HB.out.2.2.below (by rw [HZ.out]; exact H4.out.1.below))).mono ?_
    rintro e w5 ⟨v, rfl, ⟨r, h, Ar, cr, Ai, ci, rfl, hr, hh, hran⟩, hb⟩
    have H5 : Bx (SnB w w5 S D L Ah Ar Ai Ad ls r h) := ⟨⟨H4.out.1.step hb, H4.out.2.1.below hb, hr, hh, H4.out.2.2.below hb⟩⟩
    have HRan : Bx _ := ⟨hran⟩
    have hll : ls.length = D.filter.length := (hei_ok HP.out.formed HP.out.hei).len
    have hrl : r.length ≤ D.filter.length := hran.le
    have hrh : r.length = h.length := hran.len
    have g1 : decide ((r.length : Int) > (D.filter.length : Int)) = false := by simp; omega
    have g2 : decide ((D.filter.length : Int) < (r.length : Int)) = false := by simp; omega
    have g5 : decide (D.filter.length < r.length) = false := decide_eq_false (by omega)
    have g3 : ((ls.length : Int) != (D.filter.length : Int)) = false := by rw [hll]; simp
    have g4 : (!((ls.length : Int) == (D.filter.length : Int))) = false := by rw [hll]; simp
    clear hb hr hh hran p12
    have p12 := H5.out.hd.box.cell 12 _ rfl
    have HL : Bx _ := ⟨And.intro hll hrh⟩
    clear hll hrh
    go_upto_region 10 with (fail)
    clear p12 g1 g2 g3 g4 g5
    go_loopw [15] (fun vi wr => ∃ i : Nat, i ≤ r.length ∧ vi = .int .i64 (i : Int) ∧ Bx (SnB w wr S D L Ah Ar Ai Ad ls r h)) (fun vi _ => r.length - (intOf vi).toNat)
    case atStart => exact ⟨0, by omega, rfl, H5⟩
    case round =>
      obtain ⟨i, hi, rfl, HR⟩ := hrel
      by_cases hlt : i < r.length
      · obtain ⟨x, hx⟩ : ∃ x, r[i]? = some x := ⟨_, List.getElem?_eq_getElem hlt⟩
        obtain ⟨y, hy⟩ : ∃ y, h[i]? = some y := ⟨_, List.getElem?_eq_getElem (by rw [← HL.out.2]; exact hlt)⟩
        obtain ⟨m, rfl, _, hmL, hsm, hdm⟩ := HRan.out.all i x y hx hy
        obtain ⟨b1, o1, hA1, r1⟩ := i64_at HR.out.rr hx
        obtain ⟨b2, o2, hA2, r2⟩ := i64_at HR.out.hi hy
        obtain ⟨b3, o3, hA3, r3⟩ := i64_at HR.out.hh hsm
        subst hA1
        subst hA2
        subst hA3
        have hih : i < h.length := (List.getElem?_eq_some_iff.1 hy).1
        have hml : m < ls.length := (List.getElem?_eq_some_iff.1 hsm).1
        have HD : Bx (∀ (j : Nat) (z : Int), (deadL D)[j]? = some z → z ≠ (m : Int)) := ⟨dead_not hdm⟩
        have HXY : Bx _ := ⟨And.intro hx (And.intro hy hsm)⟩
        clear hx hy hsm hdm
        go_wp2_with fail
        go_quiet (fail)
        have HR2 : Bx (∀ n, SnB w (wr.drewN n) S D L (some ⟨b3, o3, none⟩) (some ⟨b1, o1, none⟩) (some ⟨b2, o2, none⟩) Ad ls r h) := ⟨fun n => HR.out.step ⟨rfl, rfl, rfl, Nat.le_refl _, fun _ _ => rfl⟩⟩
        clear r1 r2 r3
        go_upto_region 15 with (fail)
        go_loopw [16] (fun vk wq => ∃ q : Nat, q ≤ (deadL D).length ∧ vk = .int .i64 (q : Int) ∧ Bx (SnB w wq S D L (some ⟨b3, o3, none⟩) (some ⟨b1, o1, none⟩) (some ⟨b2, o2, none⟩) Ad ls r h)) (fun vk _ => (deadL D).length - (intOf vk).toNat)
        case atStart => exact ⟨0, by omega, rfl, ⟨HR2.out _⟩⟩
        case round =>
          obtain ⟨q, hq, rfl, HQ⟩ := hrel
          by_cases hlq : q < (deadL D).length
          · obtain ⟨z, hz⟩ : ∃ z, (deadL D)[q]? = some z := ⟨_, List.getElem?_eq_getElem hlq⟩
            obtain ⟨b4, o4, hA4, r4⟩ := i64_at HQ.out.dd hz
            subst hA4
            obtain ⟨_, _, hA5, r5⟩ := i64_at HQ.out.rr HXY.out.1
            injection hA5 with hA5
            injection hA5 with hA6 hA7
            subst hA6
            subst hA7
            have hdn : (deadL D).length ≤ 9223372036854775807 := HQ.out.dd.n
            have hne : (z == (m : Int)) = false := by have := HD.out q z hz; simpa using this
            have HQN : Bx (∀ n, SnB w (wr.drewN n) S D L (some ⟨b3, o3, none⟩) (some ⟨b1, o1, none⟩) (some ⟨b2, o2, none⟩) (some ⟨b4, o4, none⟩) ls r h) := ⟨fun n => HQ.out.step ⟨rfl, rfl, rfl, Nat.le_refl _, fun _ _ => rfl⟩⟩
            clear hz
            go_wp2_with fail
            go_quiet (fail)
            go_wp2_with fail
            exact ⟨⟨q + 1, by omega, by rw [Int.natCast_succ], ⟨HQN.out _⟩⟩, by simp only [intOf]; omega⟩
          · go_wp2_with fail
            exact ⟨⟨i + 1, by omega, by rw [Int.natCast_succ], ⟨HQ.out⟩⟩, by simp only [intOf]; omega⟩
      · go_wp2_with fail
        refine (live_any wr HR.out.hd.glob (HB.out.2.1.below (by rw [HZ.out]; exact HR.out.hd.below))).mono ?_
        rintro e w6 ⟨rfl, hb⟩
        have H6 : Bx _ := ⟨HR.out.hd.step hb⟩
        clear hb
        go_wp2
        go_ret
        exact ⟨rfl, by rw [HZ.out]; exact H6.out.below⟩
end Go.Proofs.YtbcajmkmadgbhaaDoor
