/- Verify: weirlaw19.run on a filter that passes, and any truths: it never goes wrong. -/
import Derived.Test.YtbcajmkmadgbhaaDoorVrDr
import Derived.Test.YtbcajmkmadgbhaaDoorStn
set_option linter.unusedSimpArgs false
set_option linter.unusedVariables false
namespace Go.Proofs.YtbcajmkmadgbhaaDoor
open Go.RowKit
abbrev StkB := StkAt Value.bool 4
abbrev BoolL := RowL 1 (fun b : Bool => [Value.bool b])
/-- what has been run, with how high a stack -/
structure RanAt (L : List InsD) (hs : List Int) (n : Nat) (r h : List Int) : Prop where
  len : r.length = h.length
  le : r.length ≤ n
  all : ∀ (j : Nat) (a b : Int), r[j]? = some a → h[j]? = some b → ∃ m : Nat, a = m ∧ m < n ∧ m < L.length ∧ hs[m]? = some b ∧ ahdF L m m ≠ none
theorem RanAt.snoc {L : List InsD} {hs : List Int} {n n' : Nat} {r h : List Int} {s : List Bool} (k : RanAt L hs n r h) (hr : RunAt L hs n s) (hn : n < n') : RanAt L hs n' (r ++ [(n : Int)]) (h ++ [(s.length : Int)]) := by
  refine ⟨by rw [List.length_append, List.length_append, k.len]; rfl, by have := k.le; rw [List.length_append, List.length_singleton]; omega, fun j a b ha hb => ?_⟩
  rcases Nat.lt_or_ge j r.length with h1 | h1
  · rw [List.getElem?_append_left h1] at ha
    rw [List.getElem?_append_left (by rw [← k.len]; exact h1)] at hb
    obtain ⟨m, e, hm, hm2⟩ := k.all j a b ha hb
    exact ⟨m, e, by omega, hm2⟩
  · rw [List.getElem?_append_right h1] at ha
    rw [List.getElem?_append_right (by rw [← k.len]; exact h1), ← k.len] at hb
    have h2 := (List.getElem?_eq_some_iff.1 ha).1
    have h3 : j - r.length = 0 := by simp at h2; omega
    rw [h3] at ha hb
    simp at ha hb
    subst ha hb
    obtain ⟨t, ht, _⟩ := hr.has
    exact ⟨n, rfl, hn, hr.lt, hr.high, by rw [ht]; simp⟩
/-- what run knows at its loop's head -/
structure RnB (w wr : World) (S : Nat) (Br Bh Bs : Option Nat) (r h : List Int) (s : List Bool) (vr vh vs : Value) : Prop where
  below : Below S w wr
  eq : w.heap.size = S
  ran : StkI wr Br vr r
  hig : StkI wr Bh vh h
  stk : StkB wr Bs vs s
  nr : ∀ g, Br = some g → S ≤ g
  nh : ∀ g, Bh = some g → S ≤ g
  ns : ∀ g, Bs = some g → S ≤ g
  rh : ∀ g, Br = some g → Bh ≠ some g
  rs : ∀ g, Br = some g → Bs ≠ some g
  hs : ∀ g, Bh = some g → Bs ≠ some g
section
variable {w wr w' : World} {S : Nat} {Br Bh Bs B' : Option Nat} {r h r' : List Int} {s s' : List Bool} {vr vh vs v' : Value}
theorem RnB.sz (k : RnB w wr S Br Bh Bs r h s vr vh vs) : S ≤ wr.heap.size := by rw [← k.eq]; exact k.below.size
theorem RnB.step (k : RnB w wr S Br Bh Bs r h s vr vh vs) (hb : Below wr.heap.size wr w') : RnB w w' S Br Bh Bs r h s vr vh vs :=
  ⟨k.below.trans (hb.mono k.sz), k.eq, k.ran.below hb, k.hig.below hb, k.stk.below hb, k.nr, k.nh, k.ns, k.rh, k.rs, k.hs⟩
theorem RnB.pushR (k : RnB w wr S Br Bh Bs r h s vr vh vs) (hs : StkI w' B' v' r') (ht : Turned Br.toList wr w') (hB : B' = Br ∨ ∃ g, B' = some g ∧ wr.heap.size ≤ g) : RnB w w' S B' Bh Bs r' h s v' vh vs where
  below := k.below.trans (ht.below (fun x hx => k.nr x (mem_toList hx)) k.sz)
  eq := k.eq
  ran := hs
  hig := k.hig.turned ht (fun g e hx => k.rh g (mem_toList hx) e)
  stk := k.stk.turned ht (fun g e hx => k.rs g (mem_toList hx) e)
  nr := by
    rcases hB with rfl | ⟨g, rfl, hg⟩
    · exact k.nr
    · intro g' e; injection e with e; have := k.sz; omega
  nh := k.nh
  ns := k.ns
  rh := by
    rcases hB with rfl | ⟨g, rfl, hg⟩
    · exact k.rh
    · intro g' e e2; injection e with e; have := k.hig.lt g' e2; omega
  rs := by
    rcases hB with rfl | ⟨g, rfl, hg⟩
    · exact k.rs
    · intro g' e e2; injection e with e; have := k.stk.lt g' e2; omega
  hs := k.hs
theorem RnB.pushH (k : RnB w wr S Br Bh Bs r h s vr vh vs) (hs : StkI w' B' v' r') (ht : Turned Bh.toList wr w') (hB : B' = Bh ∨ ∃ g, B' = some g ∧ wr.heap.size ≤ g) : RnB w w' S Br B' Bs r r' s vr v' vs where
  below := k.below.trans (ht.below (fun x hx => k.nh x (mem_toList hx)) k.sz)
  eq := k.eq
  ran := k.ran.turned ht (fun g e hx => k.rh g e (mem_toList hx))
  hig := hs
  stk := k.stk.turned ht (fun g e hx => k.hs g (mem_toList hx) e)
  nr := k.nr
  nh := by
    rcases hB with rfl | ⟨g, rfl, hg⟩
    · exact k.nh
    · intro g' e; injection e with e; have := k.sz; omega
  ns := k.ns
  rh := by
    rcases hB with rfl | ⟨g, rfl, hg⟩
    · exact k.rh
    · intro g' e e2; injection e2 with e2; have := k.ran.lt g' e; omega
  rs := k.rs
  hs := by
    rcases hB with rfl | ⟨g, rfl, hg⟩
    · exact k.hs
    · intro g' e e2; injection e with e; have := k.stk.lt g' e2; omega
theorem RnB.pushS (k : RnB w wr S Br Bh Bs r h s vr vh vs) (hs : StkB w' B' v' s') (ht : Turned Bs.toList wr w') (hB : B' = Bs ∨ ∃ g, B' = some g ∧ wr.heap.size ≤ g) : RnB w w' S Br Bh B' r h s' vr vh v' where
  below := k.below.trans (ht.below (fun x hx => k.ns x (mem_toList hx)) k.sz)
  eq := k.eq
  ran := k.ran.turned ht (fun g e hx => k.rs g e (mem_toList hx))
  hig := k.hig.turned ht (fun g e hx => k.hs g e (mem_toList hx))
  stk := hs
  nr := k.nr
  nh := k.nh
  ns := by
    rcases hB with rfl | ⟨g, rfl, hg⟩
    · exact k.ns
    · intro g' e; injection e with e; have := k.sz; omega
  rh := k.rh
  rs := by
    rcases hB with rfl | ⟨g, rfl, hg⟩
    · exact k.rs
    · intro g' e e2; injection e2 with e2; have := k.ran.lt g' e; omega
  hs := by
    rcases hB with rfl | ⟨g, rfl, hg⟩
    · exact k.hs
    · intro g' e e2; injection e2 with e2; have := k.hig.lt g' e; omega
theorem RnB.takeS {g cap n : Nat} (k : RnB w wr S Br Bh Bs r h s vr vh (.slice (some ⟨g, 0, none⟩) n cap)) (q c : Nat) (hq : q ≤ s.length) (hc : q ≤ c) (hcc : c ≤ cap) : RnB w wr S Br Bh Bs r h (s.take q) vr vh (.slice (some ⟨g, 0, none⟩) q c) :=
  ⟨k.below, k.eq, k.ran, k.hig, k.stk.take q c hq hc hcc, k.nr, k.nh, k.ns, k.rh, k.rs, k.hs⟩
end
theorem newsB (w : World) (b : Bool) (T : Nat) : (w.alloc (.cells #[.bool b] T)).cell? ((⟨w.heap.size, 0, none⟩ : Addr).add 0) = some (.bool b) := by
  have e : (⟨w.heap.size, 0, none⟩ : Addr).add 0 = ⟨w.heap.size, 0, none⟩ := by simp [Addr.add]
  rw [e, World.cell?_alloc_at _ _ _ _ rfl]
  rfl
/-- what run hands back -/
def RanOut (w w' : World) (L : List InsD) (hs : List Int) (v : Value) : Prop := ∃ r h A1 c1 A2 c2, v = .tuple #[.slice A1 r.length c1, .slice A2 h.length c2, .bool true] ∧ I64L w' A1 r ∧ I64L w' A2 h ∧ RanAt L hs L.length r h
set_option maxHeartbeats 16000000 in
set_option maxRecDepth 100000 in
theorem run_any (L : List InsD) (hs : List Int) (A : Option Addr) (cap : Nat) (T : List Bool) (At : Option Addr) (ct : Nat) (w : World) (hP : PassF L hs) (hL : L.length ≤ 65536) (hM : InsL w A L) (hI : ∀ i ∈ L, InsB i) (hT : BoolL w At T) :
    Calls Tryd.prog 14 #[.slice A L.length cap, .slice At T.length ct] w fun e w' => ∃ v, e = .returned v ∧ RanOut w w' L hs v ∧ Below w.heap.size w w' := by
  obtain ⟨i0, hi, hiz, hi1, hi2⟩ := info_parts (show (Tryd.prog.info? 3).map (fun i => (i.zero, i.size, i.bytes)) = some (some (.int .i64 0), 1, 8) by kernel_rfl)
  have HI0 : Bx (Tryd.prog.info? 3 = some i0 ∧ i0.zero = some (.int .i64 0) ∧ i0.size = 1 ∧ i0.bytes = 8) := ⟨hi, hiz, hi1, hi2⟩
  clear hi hiz hi1 hi2
  obtain ⟨i1, hi, hiz, hi1, hi2⟩ := info_parts (show (Tryd.prog.info? 4).map (fun i => (i.zero, i.size, i.bytes)) = some (some (.bool false), 1, 1) by kernel_rfl)
  have HI1 : Bx (Tryd.prog.info? 4 = some i1 ∧ i1.zero = some (.bool false) ∧ i1.size = 1 ∧ i1.bytes = 1) := ⟨hi, hiz, hi1, hi2⟩
  clear hi hiz hi1 hi2
  have HP : Bx _ := ⟨hP⟩
  obtain ⟨pb, off, rfl, hrow⟩ := hM.row hP.pos
  have HROW : Bx _ := ⟨hrow⟩
  clear hrow
  have HM : Bx _ := ⟨And.intro hM (And.intro hI hT)⟩
  have HTN : Bx _ := ⟨hT.n⟩
  generalize hS : w.heap.size = S at *
  have HZ : Bx (w.heap.size = S) := ⟨hS⟩
  clear hP hM hI hT hS
  go_enter Tryd.func14, Tryd.ntmps14
  go_wp2_with fail
  go_loopw [7, 8, 9, 10, 11] (fun vr vh vs vk vi wr => ∃ (n k : Nat) (Br Bh Bs : Option Nat) (r h : List Int) (s : List Bool), vi = .int .i64 (n : Int) ∧ vk = .int .i64 (k : Int) ∧ n < L.length ∧ k ≤ n ∧ Bx (RnB w wr S Br Bh Bs r h s vr vh vs ∧ RunAt L hs n s ∧ RanAt L hs n r h)) (fun _ _ _ _ vi _ => L.length - (intOf vi).toNat)
  case atStart => exact ⟨0, 0, none, none, none, [], [], [], rfl, rfl, HP.out.pos, by omega, ⟨⟨Below.refl _ _, HZ.out, StkAt.nil _ _ _, StkAt.nil _ _ _, StkAt.nil _ _ _, fun _ e => (by cases e), fun _ e => (by cases e), fun _ e => (by cases e), fun _ e => (by cases e), fun _ e => (by cases e), fun _ e => (by cases e)⟩, run_start HP.out, ⟨rfl, by simp, fun j a b h => by simp at h⟩⟩⟩
  case round =>
    obtain ⟨n, k, Br, Bh, Bs, r, h, s, rfl, rfl, hn, hk, HR⟩ := hrel
    have hrl : r.length ≤ n := HR.out.2.2.le
    have hhl : h.length ≤ n := by rw [← HR.out.2.2.len]; exact hrl
    have HR6 : Bx _ := ⟨HR.out.1.step (below1 wr (.cells #[.int .i64 (n : Int)] 3))⟩
    obtain ⟨AS, cs, hvs, hcs⟩ := HR6.out.stk.shape
    subst hvs
    have hx : L[n]? = some L[n] := List.getElem?_eq_getElem hn
    have HX : Bx (∀ j v, [Value.int .u8 (L[n].c : Int), .int .i64 L[n].a, .int .i64 L[n].b][j]? = some v → w.cell? ⟨pb, off + n * 3 + j, none⟩ = some v) := ⟨HROW.out n _ hx⟩
    have HF : Bx (L[n]? = some L[n]) := ⟨hx⟩
    have HIB : Bx (InsB L[n]) := ⟨HM.out.2.1 _ (List.getElem_mem hn)⟩
    clear hx
    generalize L[n] = i at *
    obtain ⟨ic, ia, ib⟩ := i
    have HRS : Bx (∀ q, ic ≠ 13 → RunAt L hs (nextT ⟨ic, ia, ib⟩ n s) (runT ic q s) ∧ n < nextT ⟨ic, ia, ib⟩ n s) := ⟨fun q h => run_step q HP.out HR.out.2.1 HF.out h⟩
    obtain ⟨hst0, hc1, hc2⟩ := run_takes HP.out HR.out.2.1 HF.out
    have htk0 := hst0.takes
    have hsl : s.length ≤ 1000 := by
      have h1 := hst0.most
      have hp1 := puts_ge ic
      have hp2 := takes_le2 ic
      unfold behindC at h1
      simp only [] at h1
      omega
    have km := fun x => moves_any ic x
    obtain ⟨tk, htk⟩ : ∃ t, takesC ic = t := ⟨_, rfl⟩
    obtain ⟨pt, hpt⟩ : ∃ t, putsC ic = t := ⟨_, rfl⟩
    simp only [] at hc1 hc2 htk0
    rw [htk] at htk0
    rw [htk, hpt] at km
    have hnt : decide ((s.length : Int) < tk) = false := by simp; omega
    have HTK : Bx _ := ⟨htk⟩
    have HST : Bx _ := ⟨hst0⟩
    clear htk hpt hst0
    go_wp2_with (first | (at_builtin; refine wpList_stk_push (f := fun z : Int => Value.int .i64 z) rfl _ _ 48 rfl Tryd.underlying48 HI0.out.1 HI0.out.2.1 HI0.out.2.2.1 HI0.out.2.2.2 rfl rfl HR6.out.ran ⟨wr.heap.size, 0, none⟩ 1 (n : Int) rfl (newsI wr _ _ 0 _ rfl) rfl (by unfold maxLen; omega) (by omega) ?_; intro Br2 vr2 w2 hst htu hB2; have HR7 : Bx _ := ⟨HR6.out.pushR hst htu hB2⟩; have HR8 : Bx _ := ⟨HR7.out.step (below1 w2 (.cells #[.int .i64 (s.length : Int)] 3))⟩; clear hst htu hB2) | (at_builtin; refine wpList_stk_push (f := fun z : Int => Value.int .i64 z) rfl _ _ 48 rfl Tryd.underlying48 HI0.out.1 HI0.out.2.1 HI0.out.2.2.1 HI0.out.2.2.2 rfl rfl HR8.out.hig ⟨w2.heap.size, 0, none⟩ 1 (s.length : Int) rfl (newsI w2 _ _ 0 _ rfl) rfl (by unfold maxLen; omega) (by omega) ?_; intro Bh2 vh2 w3 hst htu hB2; have HR9 : Bx _ := ⟨HR8.out.pushH hst htu hB2⟩; clear hst htu hB2; have a0 : w3.cell? ⟨pb, off + n * 3, none⟩ = some (.int .u8 (ic : Int)) := (HR9.out.below.cell (by rw [← HZ.out]; exact cell_lt (HX.out 0 _ rfl))).trans (HX.out 0 _ rfl)) | fail)
    refine (km _).mono ?_
    rintro e w4 ⟨rfl, rfl⟩
    go_upto_region 15 with (fail)
    have hcs13 : ic = 1 ∨ ic = 2 ∨ ic = 3 ∨ ic = 4 ∨ ic = 5 ∨ ic = 6 ∨ ic = 7 ∨ ic = 8 ∨ ic = 9 ∨ ic = 10 ∨ ic = 11 ∨ ic = 12 ∨ ic = 13 := by omega
    clear km hnt hcs hc1 hc2
    rcases hcs13 with rfl | rfl | rfl | rfl | rfl | rfl | rfl | rfl | rfl | rfl | rfl | rfl | rfl
    · as_aux_lemma =>
        have HRb : Bx _ := ⟨HR9.out.step (below1 w3 (.cells #[.bool true] 4))⟩
        go_wp2_with (first | (at_builtin; refine wpList_stk_push (f := Value.bool) rfl _ _ 47 rfl Tryd.underlying47 HI1.out.1 HI1.out.2.1 HI1.out.2.2.1 HI1.out.2.2.2 rfl rfl HRb.out.stk ⟨w3.heap.size, 0, none⟩ 1 true rfl (newsB w3 _ _) rfl (by unfold maxLen; omega) (by omega) ?_; intro Bs2 vs2 w5 hst htu hB2; have HRn : Bx _ := ⟨HRb.out.pushS hst htu hB2⟩; clear hst htu hB2) | fail)
        have hq := HRS.out false (by decide)
        have hq1 : nextT ⟨1, ia, ib⟩ n s = n + 1 := rfl
        have hq2 : runT 1 false s = s ++ [true] := rfl
        rw [hq1, hq2] at hq
        have HE : Bx _ := ⟨And.intro HRn.out (And.intro hq.1 (HR.out.2.2.snoc HR.out.2.1 hq.2))⟩
        have hlt := hq.1.lt
        clear hq hq1 hq2
        exact ⟨⟨n + 1, k, Br2, Bh2, Bs2, _, _, _, by rw [Int.natCast_succ], rfl, hlt, by omega, HE⟩, by simp only [intOf]; omega⟩
    · as_aux_lemma =>
        have HRb : Bx _ := ⟨HR9.out.step (below1 w3 (.cells #[.bool false] 4))⟩
        go_wp2_with (first | (at_builtin; refine wpList_stk_push (f := Value.bool) rfl _ _ 47 rfl Tryd.underlying47 HI1.out.1 HI1.out.2.1 HI1.out.2.2.1 HI1.out.2.2.2 rfl rfl HRb.out.stk ⟨w3.heap.size, 0, none⟩ 1 false rfl (newsB w3 _ _) rfl (by unfold maxLen; omega) (by omega) ?_; intro Bs2 vs2 w5 hst htu hB2; have HRn : Bx _ := ⟨HRb.out.pushS hst htu hB2⟩; clear hst htu hB2) | fail)
        have hq := HRS.out false (by decide)
        have hq1 : nextT ⟨2, ia, ib⟩ n s = n + 1 := rfl
        have hq2 : runT 2 false s = s ++ [false] := rfl
        rw [hq1, hq2] at hq
        have HE : Bx _ := ⟨And.intro HRn.out (And.intro hq.1 (HR.out.2.2.snoc HR.out.2.1 hq.2))⟩
        have hlt := hq.1.lt
        clear hq hq1 hq2
        exact ⟨⟨n + 1, k, Br2, Bh2, Bs2, _, _, _, by rw [Int.natCast_succ], rfl, hlt, by omega, HE⟩, by simp only [intOf]; omega⟩
    · as_aux_lemma =>
        by_cases htn : 0 < T.length
        · obtain ⟨tb, toff, rfl, hcells⟩ := row_one HM.out.2.2 htn
          obtain ⟨m, hm⟩ : ∃ m, k % T.length = m := ⟨_, rfl⟩
          have hml : m < T.length := by rw [← hm]; exact Nat.mod_lt _ htn
          have hcell := hcells m _ (List.getElem?_eq_getElem hml)
          generalize T[m] = q at hcell
          have r1 : w3.cell? ⟨tb, toff + m, none⟩ = some (.bool q) := (HR9.out.below.cell (by rw [← HZ.out]; exact cell_lt hcell)).trans hcell
          have hmod : ((k : Int).tmod (T.length : Int)) = (m : Int) := by rw [Int.tmod_eq_emod_of_nonneg (by omega), ← hm]; rfl
          have hTn := HTN.out
          have hpos : decide ((T.length : Int) > 0) = true := by simp; omega
          have hpos2 : decide ((0 : Int) < (T.length : Int)) = true := by simp; omega
          have HRb : Bx _ := ⟨HR9.out.step (below1 w3 (.cells #[.bool q] 4))⟩
          clear hcells hcell hm
          go_wp2_with (first | (at_builtin; refine wpList_stk_push (f := Value.bool) rfl _ _ 47 rfl Tryd.underlying47 HI1.out.1 HI1.out.2.1 HI1.out.2.2.1 HI1.out.2.2.2 rfl rfl HRb.out.stk ⟨w3.heap.size, 0, none⟩ 1 q rfl (newsB w3 _ _) rfl (by unfold maxLen; omega) (by omega) ?_; intro Bs2 vs2 w5 hst htu hB2; have HRn : Bx _ := ⟨HRb.out.pushS hst htu hB2⟩; clear hst htu hB2) | fail)
          have hq := HRS.out q (by decide)
          have hq1 : nextT ⟨3, ia, ib⟩ n s = n + 1 := rfl
          have hq2 : runT 3 q s = s ++ [q] := rfl
          rw [hq1, hq2] at hq
          have HE : Bx _ := ⟨And.intro HRn.out (And.intro hq.1 (HR.out.2.2.snoc HR.out.2.1 hq.2))⟩
          have hlt := hq.1.lt
          clear hq hq1 hq2
          exact ⟨⟨n + 1, (k + 1), Br2, Bh2, Bs2, _, _, _, by rw [Int.natCast_succ], by rw [Int.natCast_succ], hlt, by omega, HE⟩, by simp only [intOf]; omega⟩
        · have hpos : decide ((T.length : Int) > 0) = false := decide_eq_false (by omega)
          have hpos2 : decide ((0 : Int) < (T.length : Int)) = false := decide_eq_false (by omega)
          have hpos3 : decide (0 < T.length) = false := decide_eq_false (by omega)
          clear htn
          have HRb : Bx _ := ⟨HR9.out.step (below1 w3 (.cells #[.bool false] 4))⟩
          go_wp2_with (first | (at_builtin; refine wpList_stk_push (f := Value.bool) rfl _ _ 47 rfl Tryd.underlying47 HI1.out.1 HI1.out.2.1 HI1.out.2.2.1 HI1.out.2.2.2 rfl rfl HRb.out.stk ⟨w3.heap.size, 0, none⟩ 1 false rfl (newsB w3 _ _) rfl (by unfold maxLen; omega) (by omega) ?_; intro Bs2 vs2 w5 hst htu hB2; have HRn : Bx _ := ⟨HRb.out.pushS hst htu hB2⟩; clear hst htu hB2) | fail)
          have hq := HRS.out false (by decide)
          have hq1 : nextT ⟨3, ia, ib⟩ n s = n + 1 := rfl
          have hq2 : runT 3 false s = s ++ [false] := rfl
          rw [hq1, hq2] at hq
          have HE : Bx _ := ⟨And.intro HRn.out (And.intro hq.1 (HR.out.2.2.snoc HR.out.2.1 hq.2))⟩
          have hlt := hq.1.lt
          clear hq hq1 hq2
          exact ⟨⟨n + 1, (k + 1), Br2, Bh2, Bs2, _, _, _, by rw [Int.natCast_succ], by rw [Int.natCast_succ], hlt, by omega, HE⟩, by simp only [intOf]; omega⟩
    · as_aux_lemma =>
        by_cases htn : 0 < T.length
        · obtain ⟨tb, toff, rfl, hcells⟩ := row_one HM.out.2.2 htn
          obtain ⟨m, hm⟩ : ∃ m, k % T.length = m := ⟨_, rfl⟩
          have hml : m < T.length := by rw [← hm]; exact Nat.mod_lt _ htn
          have hcell := hcells m _ (List.getElem?_eq_getElem hml)
          generalize T[m] = q at hcell
          have r1 : w3.cell? ⟨tb, toff + m, none⟩ = some (.bool q) := (HR9.out.below.cell (by rw [← HZ.out]; exact cell_lt hcell)).trans hcell
          have hmod : ((k : Int).tmod (T.length : Int)) = (m : Int) := by rw [Int.tmod_eq_emod_of_nonneg (by omega), ← hm]; rfl
          have hTn := HTN.out
          have hpos : decide ((T.length : Int) > 0) = true := by simp; omega
          have hpos2 : decide ((0 : Int) < (T.length : Int)) = true := by simp; omega
          have HRb : Bx _ := ⟨HR9.out.step (below1 w3 (.cells #[.bool q] 4))⟩
          clear hcells hcell hm
          go_wp2_with (first | (at_builtin; refine wpList_stk_push (f := Value.bool) rfl _ _ 47 rfl Tryd.underlying47 HI1.out.1 HI1.out.2.1 HI1.out.2.2.1 HI1.out.2.2.2 rfl rfl HRb.out.stk ⟨w3.heap.size, 0, none⟩ 1 q rfl (newsB w3 _ _) rfl (by unfold maxLen; omega) (by omega) ?_; intro Bs2 vs2 w5 hst htu hB2; have HRn : Bx _ := ⟨HRb.out.pushS hst htu hB2⟩; clear hst htu hB2) | fail)
          have hq := HRS.out q (by decide)
          have hq1 : nextT ⟨4, ia, ib⟩ n s = n + 1 := rfl
          have hq2 : runT 4 q s = s ++ [q] := rfl
          rw [hq1, hq2] at hq
          have HE : Bx _ := ⟨And.intro HRn.out (And.intro hq.1 (HR.out.2.2.snoc HR.out.2.1 hq.2))⟩
          have hlt := hq.1.lt
          clear hq hq1 hq2
          exact ⟨⟨n + 1, (k + 1), Br2, Bh2, Bs2, _, _, _, by rw [Int.natCast_succ], by rw [Int.natCast_succ], hlt, by omega, HE⟩, by simp only [intOf]; omega⟩
        · have hpos : decide ((T.length : Int) > 0) = false := decide_eq_false (by omega)
          have hpos2 : decide ((0 : Int) < (T.length : Int)) = false := decide_eq_false (by omega)
          have hpos3 : decide (0 < T.length) = false := decide_eq_false (by omega)
          clear htn
          have HRb : Bx _ := ⟨HR9.out.step (below1 w3 (.cells #[.bool false] 4))⟩
          go_wp2_with (first | (at_builtin; refine wpList_stk_push (f := Value.bool) rfl _ _ 47 rfl Tryd.underlying47 HI1.out.1 HI1.out.2.1 HI1.out.2.2.1 HI1.out.2.2.2 rfl rfl HRb.out.stk ⟨w3.heap.size, 0, none⟩ 1 false rfl (newsB w3 _ _) rfl (by unfold maxLen; omega) (by omega) ?_; intro Bs2 vs2 w5 hst htu hB2; have HRn : Bx _ := ⟨HRb.out.pushS hst htu hB2⟩; clear hst htu hB2) | fail)
          have hq := HRS.out false (by decide)
          have hq1 : nextT ⟨4, ia, ib⟩ n s = n + 1 := rfl
          have hq2 : runT 4 false s = s ++ [false] := rfl
          rw [hq1, hq2] at hq
          have HE : Bx _ := ⟨And.intro HRn.out (And.intro hq.1 (HR.out.2.2.snoc HR.out.2.1 hq.2))⟩
          have hlt := hq.1.lt
          clear hq hq1 hq2
          exact ⟨⟨n + 1, (k + 1), Br2, Bh2, Bs2, _, _, _, by rw [Int.natCast_succ], by rw [Int.natCast_succ], hlt, by omega, HE⟩, by simp only [intOf]; omega⟩
    · as_aux_lemma =>
        by_cases htn : 0 < T.length
        · obtain ⟨tb, toff, rfl, hcells⟩ := row_one HM.out.2.2 htn
          obtain ⟨m, hm⟩ : ∃ m, k % T.length = m := ⟨_, rfl⟩
          have hml : m < T.length := by rw [← hm]; exact Nat.mod_lt _ htn
          have hcell := hcells m _ (List.getElem?_eq_getElem hml)
          generalize T[m] = q at hcell
          have r1 : w3.cell? ⟨tb, toff + m, none⟩ = some (.bool q) := (HR9.out.below.cell (by rw [← HZ.out]; exact cell_lt hcell)).trans hcell
          have hmod : ((k : Int).tmod (T.length : Int)) = (m : Int) := by rw [Int.tmod_eq_emod_of_nonneg (by omega), ← hm]; rfl
          have hTn := HTN.out
          have hpos : decide ((T.length : Int) > 0) = true := by simp; omega
          have hpos2 : decide ((0 : Int) < (T.length : Int)) = true := by simp; omega
          have HRb : Bx _ := ⟨HR9.out.step (below1 w3 (.cells #[.bool q] 4))⟩
          clear hcells hcell hm
          go_wp2_with (first | (at_builtin; refine wpList_stk_push (f := Value.bool) rfl _ _ 47 rfl Tryd.underlying47 HI1.out.1 HI1.out.2.1 HI1.out.2.2.1 HI1.out.2.2.2 rfl rfl HRb.out.stk ⟨w3.heap.size, 0, none⟩ 1 q rfl (newsB w3 _ _) rfl (by unfold maxLen; omega) (by omega) ?_; intro Bs2 vs2 w5 hst htu hB2; have HRn : Bx _ := ⟨HRb.out.pushS hst htu hB2⟩; clear hst htu hB2) | fail)
          have hq := HRS.out q (by decide)
          have hq1 : nextT ⟨5, ia, ib⟩ n s = n + 1 := rfl
          have hq2 : runT 5 q s = s ++ [q] := rfl
          rw [hq1, hq2] at hq
          have HE : Bx _ := ⟨And.intro HRn.out (And.intro hq.1 (HR.out.2.2.snoc HR.out.2.1 hq.2))⟩
          have hlt := hq.1.lt
          clear hq hq1 hq2
          exact ⟨⟨n + 1, (k + 1), Br2, Bh2, Bs2, _, _, _, by rw [Int.natCast_succ], by rw [Int.natCast_succ], hlt, by omega, HE⟩, by simp only [intOf]; omega⟩
        · have hpos : decide ((T.length : Int) > 0) = false := decide_eq_false (by omega)
          have hpos2 : decide ((0 : Int) < (T.length : Int)) = false := decide_eq_false (by omega)
          have hpos3 : decide (0 < T.length) = false := decide_eq_false (by omega)
          clear htn
          have HRb : Bx _ := ⟨HR9.out.step (below1 w3 (.cells #[.bool false] 4))⟩
          go_wp2_with (first | (at_builtin; refine wpList_stk_push (f := Value.bool) rfl _ _ 47 rfl Tryd.underlying47 HI1.out.1 HI1.out.2.1 HI1.out.2.2.1 HI1.out.2.2.2 rfl rfl HRb.out.stk ⟨w3.heap.size, 0, none⟩ 1 false rfl (newsB w3 _ _) rfl (by unfold maxLen; omega) (by omega) ?_; intro Bs2 vs2 w5 hst htu hB2; have HRn : Bx _ := ⟨HRb.out.pushS hst htu hB2⟩; clear hst htu hB2) | fail)
          have hq := HRS.out false (by decide)
          have hq1 : nextT ⟨5, ia, ib⟩ n s = n + 1 := rfl
          have hq2 : runT 5 false s = s ++ [false] := rfl
          rw [hq1, hq2] at hq
          have HE : Bx _ := ⟨And.intro HRn.out (And.intro hq.1 (HR.out.2.2.snoc HR.out.2.1 hq.2))⟩
          have hlt := hq.1.lt
          clear hq hq1 hq2
          exact ⟨⟨n + 1, (k + 1), Br2, Bh2, Bs2, _, _, _, by rw [Int.natCast_succ], by rw [Int.natCast_succ], hlt, by omega, HE⟩, by simp only [intOf]; omega⟩
    · as_aux_lemma =>
        by_cases htn : 0 < T.length
        · obtain ⟨tb, toff, rfl, hcells⟩ := row_one HM.out.2.2 htn
          obtain ⟨m, hm⟩ : ∃ m, k % T.length = m := ⟨_, rfl⟩
          have hml : m < T.length := by rw [← hm]; exact Nat.mod_lt _ htn
          have hcell := hcells m _ (List.getElem?_eq_getElem hml)
          generalize T[m] = q at hcell
          have r1 : w3.cell? ⟨tb, toff + m, none⟩ = some (.bool q) := (HR9.out.below.cell (by rw [← HZ.out]; exact cell_lt hcell)).trans hcell
          have hmod : ((k : Int).tmod (T.length : Int)) = (m : Int) := by rw [Int.tmod_eq_emod_of_nonneg (by omega), ← hm]; rfl
          have hTn := HTN.out
          have hpos : decide ((T.length : Int) > 0) = true := by simp; omega
          have hpos2 : decide ((0 : Int) < (T.length : Int)) = true := by simp; omega
          have HRb : Bx _ := ⟨HR9.out.step (below1 w3 (.cells #[.bool q] 4))⟩
          clear hcells hcell hm
          go_wp2_with (first | (at_builtin; refine wpList_stk_push (f := Value.bool) rfl _ _ 47 rfl Tryd.underlying47 HI1.out.1 HI1.out.2.1 HI1.out.2.2.1 HI1.out.2.2.2 rfl rfl HRb.out.stk ⟨w3.heap.size, 0, none⟩ 1 q rfl (newsB w3 _ _) rfl (by unfold maxLen; omega) (by omega) ?_; intro Bs2 vs2 w5 hst htu hB2; have HRn : Bx _ := ⟨HRb.out.pushS hst htu hB2⟩; clear hst htu hB2) | fail)
          have hq := HRS.out q (by decide)
          have hq1 : nextT ⟨6, ia, ib⟩ n s = n + 1 := rfl
          have hq2 : runT 6 q s = s ++ [q] := rfl
          rw [hq1, hq2] at hq
          have HE : Bx _ := ⟨And.intro HRn.out (And.intro hq.1 (HR.out.2.2.snoc HR.out.2.1 hq.2))⟩
          have hlt := hq.1.lt
          clear hq hq1 hq2
          exact ⟨⟨n + 1, (k + 1), Br2, Bh2, Bs2, _, _, _, by rw [Int.natCast_succ], by rw [Int.natCast_succ], hlt, by omega, HE⟩, by simp only [intOf]; omega⟩
        · have hpos : decide ((T.length : Int) > 0) = false := decide_eq_false (by omega)
          have hpos2 : decide ((0 : Int) < (T.length : Int)) = false := decide_eq_false (by omega)
          have hpos3 : decide (0 < T.length) = false := decide_eq_false (by omega)
          clear htn
          have HRb : Bx _ := ⟨HR9.out.step (below1 w3 (.cells #[.bool false] 4))⟩
          go_wp2_with (first | (at_builtin; refine wpList_stk_push (f := Value.bool) rfl _ _ 47 rfl Tryd.underlying47 HI1.out.1 HI1.out.2.1 HI1.out.2.2.1 HI1.out.2.2.2 rfl rfl HRb.out.stk ⟨w3.heap.size, 0, none⟩ 1 false rfl (newsB w3 _ _) rfl (by unfold maxLen; omega) (by omega) ?_; intro Bs2 vs2 w5 hst htu hB2; have HRn : Bx _ := ⟨HRb.out.pushS hst htu hB2⟩; clear hst htu hB2) | fail)
          have hq := HRS.out false (by decide)
          have hq1 : nextT ⟨6, ia, ib⟩ n s = n + 1 := rfl
          have hq2 : runT 6 false s = s ++ [false] := rfl
          rw [hq1, hq2] at hq
          have HE : Bx _ := ⟨And.intro HRn.out (And.intro hq.1 (HR.out.2.2.snoc HR.out.2.1 hq.2))⟩
          have hlt := hq.1.lt
          clear hq hq1 hq2
          exact ⟨⟨n + 1, (k + 1), Br2, Bh2, Bs2, _, _, _, by rw [Int.natCast_succ], by rw [Int.natCast_succ], hlt, by omega, HE⟩, by simp only [intOf]; omega⟩
    · have h1s : 1 ≤ s.length := by have := HTK.out; change (1 : Int) = tk at this; omega
      obtain ⟨g, cp, hBs, hv, hle, hmx, hcell⟩ := HR9.out.stk.some h1s
      injection hv with hv1 hv2 hv3
      subst hv1
      have hv4 : cp = cs := hv3.symm
      subst hv4
      clear hv2 hv3 hmx
      obtain ⟨e1, he1⟩ : ∃ e, s.length - 1 = e := ⟨_, rfl⟩
      obtain ⟨x1, hx1⟩ : ∃ x, s[e1]? = some x := ⟨_, List.getElem?_eq_getElem (by omega)⟩
      have r1 : w3.cell? ⟨g, e1, none⟩ = some (.bool x1) := hcell e1 x1 hx1
      have hs1 : (s.length : Int) - 1 = (e1 : Int) := by omega
      have hcp : e1 ≤ cp := by omega
      have hw1 : IntKind.i64.wrap (e1 : Int) = (e1 : Int) := wrap_id_i64 e1 (by omega)
      have hi1 : (0 : Int) ≤ (e1 : Int) ∧ (e1 : Int) < (s.length : Int) := by omega
      have HX1 : Bx (s.length - 1 = e1 ∧ s[e1]? = some x1) := ⟨he1, hx1⟩
      clear hcell he1 hx1 hBs
      have HR10 : Bx (RnB w w3.drew S Br2 Bh2 Bs (r ++ [(n : Int)]) (h ++ [(s.length : Int)]) (s.take e1) vr2 vh2 (.slice (some ⟨g, 0, none⟩) e1 e1)) := ⟨(HR9.out.step ((Below.refl _ _).drew)).takeS e1 e1 (by omega) (Nat.le_refl _) hcp⟩
      have HRb : Bx _ := ⟨HR10.out.step (below1 w3.drew (.cells #[.bool (!x1)] 4))⟩
      have htl : (s.take e1).length = e1 := by rw [List.length_take]; omega
      go_wp2_with fail
      first | (go_region_held3 (fun x => x.cell? ⟨g, e1, none⟩ = some (.bool x1) ∧ x.cell? ⟨g, e1, none⟩ = some (.bool x1)) (first | exact ⟨r1, r1⟩ | assumption | (exact cellS2' (by assumption) (below1 _ _))) (first | (refine step_stk_new (f := Value.bool) rfl _ _ 47 rfl Tryd.underlying47 HI1.out.1 HI1.out.2.1 HI1.out.2.2.1 HI1.out.2.2.2 rfl (by simp [Act.eval, Act.put]) HRb.out.stk ⟨w3.heap.size, 0, none⟩ 1 (!x1) (by simp [Act.eval, Act.put]) (newsB w3.drew _ _) rfl (by unfold maxLen; omega) (by omega) ?_; intro Bs2 vs2 w5 hst hbb hB2; have hs6 := cellS2' (cellS2' (show w3.drew.cell? _ = _ ∧ w3.drew.cell? _ = _ from ⟨r1, r1⟩) (below1 w3.drew (.cells #[.bool (!x1)] 4))) hbb; have HRn := Bx.mk (HRb.out.pushS hst (Turned.ofBelow hbb) (Or.inr hB2)); clear hst hbb hB2))) | fail
      go_wp2_with fail
      have hq2' : runT 7 false s = s.take e1 ++ [!x1] := by
        show s.take (s.length - 1) ++ [!s.getD (s.length - 1) false] = _
        rw [HX1.out.1, List.getD_eq_getElem?_getD, HX1.out.2]; rfl
      have hq := HRS.out false (by decide)
      have hq1 : nextT ⟨7, ia, ib⟩ n s = n + 1 := rfl
      have hq2 : runT 7 false s = s.take e1 ++ [!x1] := hq2'
      rw [hq1, hq2] at hq
      have HE : Bx _ := ⟨And.intro HRn.out (And.intro hq.1 (HR.out.2.2.snoc HR.out.2.1 hq.2))⟩
      have hlt := hq.1.lt
      clear hq hq1 hq2
      exact ⟨⟨n + 1, k, Br2, Bh2, Bs2, _, _, _, by rw [Int.natCast_succ], rfl, hlt, by omega, HE⟩, by simp only [intOf]; omega⟩
    · have h2s : 2 ≤ s.length := by have := HTK.out; change (2 : Int) = tk at this; omega
      obtain ⟨g, cp, hBs, hv, hle, hmx, hcell⟩ := HR9.out.stk.some (by omega)
      injection hv with hv1 hv2 hv3
      subst hv1
      have hv4 : cp = cs := hv3.symm
      subst hv4
      clear hv2 hv3 hmx
      obtain ⟨e1, he1⟩ : ∃ e, s.length - 1 = e := ⟨_, rfl⟩
      obtain ⟨e2, he2⟩ : ∃ e, s.length - 2 = e := ⟨_, rfl⟩
      obtain ⟨x1, hx1⟩ : ∃ x, s[e1]? = some x := ⟨_, List.getElem?_eq_getElem (by omega)⟩
      obtain ⟨x2, hx2⟩ : ∃ x, s[e2]? = some x := ⟨_, List.getElem?_eq_getElem (by omega)⟩
      have r1 : w3.cell? ⟨g, e1, none⟩ = some (.bool x1) := hcell e1 x1 hx1
      have r2 : w3.cell? ⟨g, e2, none⟩ = some (.bool x2) := hcell e2 x2 hx2
      have hs1 : (s.length : Int) - 1 = (e1 : Int) := by omega
      have hs2 : (s.length : Int) - 2 = (e2 : Int) := by omega
      have hcp : e2 ≤ cp := by omega
      have hw1 : IntKind.i64.wrap (e1 : Int) = (e1 : Int) := wrap_id_i64 e1 (by omega)
      have hi1 : (0 : Int) ≤ (e1 : Int) ∧ (e1 : Int) < (s.length : Int) := by omega
      have hw2 : IntKind.i64.wrap (e2 : Int) = (e2 : Int) := wrap_id_i64 e2 (by omega)
      have hi2 : (0 : Int) ≤ (e2 : Int) ∧ (e2 : Int) < (s.length : Int) := by omega
      have hi3 : (0 : Int) ≤ (e2 : Int) ∧ (e2 : Int) ≤ (cp : Int) := by omega
      have HX1 : Bx (s.length - 1 = e1 ∧ s[e1]? = some x1 ∧ s.length - 2 = e2 ∧ s[e2]? = some x2) := ⟨he1, hx1, he2, hx2⟩
      have he12 : e2 + 1 = e1 := by omega
      have HE12 : Bx _ := ⟨he12⟩
      clear hcell he1 hx1 he2 hx2 hBs he12
      obtain ⟨xr, hxr⟩ : ∃ x, (x2 && x1) = x := ⟨_, rfl⟩
      have HXR : Bx _ := ⟨hxr⟩
      clear hxr
      have hq2' : runT 8 false s = s.take e2 ++ [xr] := by
        show s.take (s.length - 2) ++ [s.getD (s.length - 2) false && s.getD (s.length - 1) false] = _
        rw [HX1.out.1, HX1.out.2.2.1, List.getD_eq_getElem?_getD, List.getD_eq_getElem?_getD, HX1.out.2.1, HX1.out.2.2.2, ← HXR.out]; rfl
      have HQ2 : Bx _ := ⟨hq2'⟩
      clear hq2'
      have htl : (s.take e2).length = e2 := by rw [List.length_take]; omega
      have HR10 : Bx (RnB w w3.drew S Br2 Bh2 Bs (r ++ [(n : Int)]) (h ++ [(s.length : Int)]) (s.take e2) vr2 vh2 (.slice (some ⟨g, 0, none⟩) e2 e2)) := ⟨(HR9.out.step ((Below.refl _ _).drew)).takeS e2 e2 (by omega) (Nat.le_refl _) hcp⟩
      have HRb : Bx _ := ⟨HR10.out.step (below1 w3.drew (.cells #[.bool xr] 4))⟩
      cases x2
      · obtain rfl : xr = false := HXR.out.symm
        go_wp2_with fail
        first | (go_region_law (first | (refine step_stk_push (f := Value.bool) rfl _ _ 47 rfl Tryd.underlying47 HI1.out.1 HI1.out.2.1 HI1.out.2.2.1 HI1.out.2.2.2 rfl (by simp [Act.eval, Act.put]) HRb.out.stk ⟨w3.heap.size, 0, none⟩ 1 false (by simp [Act.eval, Act.put]) (newsB w3.drew _ _) rfl (by unfold maxLen; omega) (by omega) ?_; intro Bs2 vs2 w5 hst htu hB2; have HRn := Bx.mk (HRb.out.pushS hst htu hB2); clear hst htu hB2))) | fail
        all_goals
          go_wp2_with fail
          have hq := HRS.out false (by decide)
          have hq1 : nextT ⟨8, ia, ib⟩ n s = n + 1 := rfl
          have hq2 : runT 8 false s = s.take e2 ++ [false] := HQ2.out
          rw [hq1, hq2] at hq
          have HE : Bx _ := ⟨And.intro HRn.out (And.intro hq.1 (HR.out.2.2.snoc HR.out.2.1 hq.2))⟩
          have hlt := hq.1.lt
          clear hq hq1 hq2
          exact ⟨⟨n + 1, k, Br2, Bh2, Bs2, _, _, _, by rw [Int.natCast_succ], rfl, hlt, by omega, HE⟩, by simp only [intOf]; omega⟩
      · obtain rfl : xr = x1 := by rw [← HXR.out]; rfl
        go_wp2_with fail
        first | (go_region_held3 (fun x => x.cell? ⟨g, e1, none⟩ = some (.bool xr) ∧ x.cell? ⟨g, e2, none⟩ = some (.bool true)) (first | exact ⟨r1, r2⟩ | assumption | (exact cellS2' (by assumption) (below1 _ _))) (first | (refine step_stk_new (f := Value.bool) rfl _ _ 47 rfl Tryd.underlying47 HI1.out.1 HI1.out.2.1 HI1.out.2.2.1 HI1.out.2.2.2 rfl (by simp [Act.eval, Act.put]) HRb.out.stk ⟨w3.heap.size, 0, none⟩ 1 xr (by simp [Act.eval, Act.put]) (newsB w3.drew _ _) rfl (by unfold maxLen; omega) (by omega) ?_; intro Bs2 vs2 w5 hst hbb hB2; have hs6 := cellS2' (cellS2' (show w3.drew.cell? _ = _ ∧ w3.drew.cell? _ = _ from ⟨r1, r2⟩) (below1 w3.drew (.cells #[.bool xr] 4))) hbb; have HRn := Bx.mk (HRb.out.pushS hst (Turned.ofBelow hbb) (Or.inr hB2)); clear hst hbb hB2))) | fail
        all_goals
          go_wp2_with fail
          have hq := HRS.out false (by decide)
          have hq1 : nextT ⟨8, ia, ib⟩ n s = n + 1 := rfl
          have hq2 : runT 8 false s = s.take e2 ++ [xr] := HQ2.out
          rw [hq1, hq2] at hq
          have HE : Bx _ := ⟨And.intro HRn.out (And.intro hq.1 (HR.out.2.2.snoc HR.out.2.1 hq.2))⟩
          have hlt := hq.1.lt
          clear hq hq1 hq2
          exact ⟨⟨n + 1, k, Br2, Bh2, Bs2, _, _, _, by rw [Int.natCast_succ], rfl, hlt, by omega, HE⟩, by simp only [intOf]; omega⟩
    · have h2s : 2 ≤ s.length := by have := HTK.out; change (2 : Int) = tk at this; omega
      obtain ⟨g, cp, hBs, hv, hle, hmx, hcell⟩ := HR9.out.stk.some (by omega)
      injection hv with hv1 hv2 hv3
      subst hv1
      have hv4 : cp = cs := hv3.symm
      subst hv4
      clear hv2 hv3 hmx
      obtain ⟨e1, he1⟩ : ∃ e, s.length - 1 = e := ⟨_, rfl⟩
      obtain ⟨e2, he2⟩ : ∃ e, s.length - 2 = e := ⟨_, rfl⟩
      obtain ⟨x1, hx1⟩ : ∃ x, s[e1]? = some x := ⟨_, List.getElem?_eq_getElem (by omega)⟩
      obtain ⟨x2, hx2⟩ : ∃ x, s[e2]? = some x := ⟨_, List.getElem?_eq_getElem (by omega)⟩
      have r1 : w3.cell? ⟨g, e1, none⟩ = some (.bool x1) := hcell e1 x1 hx1
      have r2 : w3.cell? ⟨g, e2, none⟩ = some (.bool x2) := hcell e2 x2 hx2
      have hs1 : (s.length : Int) - 1 = (e1 : Int) := by omega
      have hs2 : (s.length : Int) - 2 = (e2 : Int) := by omega
      have hcp : e2 ≤ cp := by omega
      have hw1 : IntKind.i64.wrap (e1 : Int) = (e1 : Int) := wrap_id_i64 e1 (by omega)
      have hi1 : (0 : Int) ≤ (e1 : Int) ∧ (e1 : Int) < (s.length : Int) := by omega
      have hw2 : IntKind.i64.wrap (e2 : Int) = (e2 : Int) := wrap_id_i64 e2 (by omega)
      have hi2 : (0 : Int) ≤ (e2 : Int) ∧ (e2 : Int) < (s.length : Int) := by omega
      have hi3 : (0 : Int) ≤ (e2 : Int) ∧ (e2 : Int) ≤ (cp : Int) := by omega
      have HX1 : Bx (s.length - 1 = e1 ∧ s[e1]? = some x1 ∧ s.length - 2 = e2 ∧ s[e2]? = some x2) := ⟨he1, hx1, he2, hx2⟩
      have he12 : e2 + 1 = e1 := by omega
      have HE12 : Bx _ := ⟨he12⟩
      clear hcell he1 hx1 he2 hx2 hBs he12
      obtain ⟨xr, hxr⟩ : ∃ x, (x2 || x1) = x := ⟨_, rfl⟩
      have HXR : Bx _ := ⟨hxr⟩
      clear hxr
      have hq2' : runT 9 false s = s.take e2 ++ [xr] := by
        show s.take (s.length - 2) ++ [s.getD (s.length - 2) false || s.getD (s.length - 1) false] = _
        rw [HX1.out.1, HX1.out.2.2.1, List.getD_eq_getElem?_getD, List.getD_eq_getElem?_getD, HX1.out.2.1, HX1.out.2.2.2, ← HXR.out]; rfl
      have HQ2 : Bx _ := ⟨hq2'⟩
      clear hq2'
      have htl : (s.take e2).length = e2 := by rw [List.length_take]; omega
      have HR10 : Bx (RnB w w3.drew S Br2 Bh2 Bs (r ++ [(n : Int)]) (h ++ [(s.length : Int)]) (s.take e2) vr2 vh2 (.slice (some ⟨g, 0, none⟩) e2 e2)) := ⟨(HR9.out.step ((Below.refl _ _).drew)).takeS e2 e2 (by omega) (Nat.le_refl _) hcp⟩
      have HRb : Bx _ := ⟨HR10.out.step (below1 w3.drew (.cells #[.bool xr] 4))⟩
      cases x2
      · obtain rfl : xr = x1 := HXR.out.symm
        go_wp2_with fail
        first | (go_region_held3 (fun x => x.cell? ⟨g, e1, none⟩ = some (.bool xr) ∧ x.cell? ⟨g, e2, none⟩ = some (.bool false)) (first | exact ⟨r1, r2⟩ | assumption | (exact cellS2' (by assumption) (below1 _ _))) (first | (refine step_stk_new (f := Value.bool) rfl _ _ 47 rfl Tryd.underlying47 HI1.out.1 HI1.out.2.1 HI1.out.2.2.1 HI1.out.2.2.2 rfl (by simp [Act.eval, Act.put]) HRb.out.stk ⟨w3.heap.size, 0, none⟩ 1 xr (by simp [Act.eval, Act.put]) (newsB w3.drew _ _) rfl (by unfold maxLen; omega) (by omega) ?_; intro Bs2 vs2 w5 hst hbb hB2; have hs6 := cellS2' (cellS2' (show w3.drew.cell? _ = _ ∧ w3.drew.cell? _ = _ from ⟨r1, r2⟩) (below1 w3.drew (.cells #[.bool xr] 4))) hbb; have HRn := Bx.mk (HRb.out.pushS hst (Turned.ofBelow hbb) (Or.inr hB2)); clear hst hbb hB2))) | fail
        all_goals
          go_wp2_with fail
          have hq := HRS.out false (by decide)
          have hq1 : nextT ⟨9, ia, ib⟩ n s = n + 1 := rfl
          have hq2 : runT 9 false s = s.take e2 ++ [xr] := HQ2.out
          rw [hq1, hq2] at hq
          have HE : Bx _ := ⟨And.intro HRn.out (And.intro hq.1 (HR.out.2.2.snoc HR.out.2.1 hq.2))⟩
          have hlt := hq.1.lt
          clear hq hq1 hq2
          exact ⟨⟨n + 1, k, Br2, Bh2, Bs2, _, _, _, by rw [Int.natCast_succ], rfl, hlt, by omega, HE⟩, by simp only [intOf]; omega⟩
      · obtain rfl : xr = true := by rw [← HXR.out]; rfl
        go_wp2_with fail
        first | (go_region_law (first | (refine step_stk_push (f := Value.bool) rfl _ _ 47 rfl Tryd.underlying47 HI1.out.1 HI1.out.2.1 HI1.out.2.2.1 HI1.out.2.2.2 rfl (by simp [Act.eval, Act.put]) HRb.out.stk ⟨w3.heap.size, 0, none⟩ 1 true (by simp [Act.eval, Act.put]) (newsB w3.drew _ _) rfl (by unfold maxLen; omega) (by omega) ?_; intro Bs2 vs2 w5 hst htu hB2; have HRn := Bx.mk (HRb.out.pushS hst htu hB2); clear hst htu hB2))) | fail
        all_goals
          go_wp2_with fail
          have hq := HRS.out false (by decide)
          have hq1 : nextT ⟨9, ia, ib⟩ n s = n + 1 := rfl
          have hq2 : runT 9 false s = s.take e2 ++ [true] := HQ2.out
          rw [hq1, hq2] at hq
          have HE : Bx _ := ⟨And.intro HRn.out (And.intro hq.1 (HR.out.2.2.snoc HR.out.2.1 hq.2))⟩
          have hlt := hq.1.lt
          clear hq hq1 hq2
          exact ⟨⟨n + 1, k, Br2, Bh2, Bs2, _, _, _, by rw [Int.natCast_succ], rfl, hlt, by omega, HE⟩, by simp only [intOf]; omega⟩
    · as_aux_lemma =>
        have h1s : 1 ≤ s.length := by have := HTK.out; change (1 : Int) = tk at this; omega
        obtain ⟨g, cp, hBs, hv, hle, hmx, hcell⟩ := HR9.out.stk.some h1s
        injection hv with hv1 hv2 hv3
        subst hv1
        have hv4 : cp = cs := hv3.symm
        subst hv4
        clear hv2 hv3 hmx
        obtain ⟨e1, he1⟩ : ∃ e, s.length - 1 = e := ⟨_, rfl⟩
        obtain ⟨x1, hx1⟩ : ∃ x, s[e1]? = some x := ⟨_, List.getElem?_eq_getElem (by omega)⟩
        have r1 : w3.cell? ⟨g, e1, none⟩ = some (.bool x1) := hcell e1 x1 hx1
        have hs1 : (s.length : Int) - 1 = (e1 : Int) := by omega
        have hcp : e1 ≤ cp := by omega
        have hw1 : IntKind.i64.wrap (e1 : Int) = (e1 : Int) := wrap_id_i64 e1 (by omega)
        have hi1 : (0 : Int) ≤ (e1 : Int) ∧ (e1 : Int) < (s.length : Int) := by omega
        have HX1 : Bx (s.length - 1 = e1 ∧ s[e1]? = some x1) := ⟨he1, hx1⟩
        clear hcell he1 hx1 hBs
        obtain ⟨tq, hia, hnq, hql, _⟩ := HST.out.jumps rfl
        simp only [] at hia
        subst hia
        have a1 : w3.cell? ⟨pb, off + n * 3 + 1, none⟩ = some (.int .i64 (tq : Int)) := (HR9.out.below.cell (by rw [← HZ.out]; exact cell_lt (HX.out 1 _ rfl))).trans (HX.out 1 _ rfl)
        obtain ⟨t1, ht1⟩ : ∃ t, tq - 1 = t := ⟨_, rfl⟩
        have hj1 : (tq : Int) - 1 = (t1 : Int) := by omega
        have hj2 : t1 + 1 = tq := by omega
        have HJ : Bx _ := ⟨And.intro hj2 hnq⟩
        have htb : takenB 10 s = (x1 == false) := by
          show (s.getD (s.length - 1) false == (10 == 11)) = _
          rw [HX1.out.1, List.getD_eq_getElem?_getD, HX1.out.2]
          rfl
        have HTB : Bx _ := ⟨htb⟩
        have htl : t1 ≤ 65536 := by omega
        have HRN : Bx (∀ q, RnB w (w3.drewN q) S Br2 Bh2 Bs (r ++ [(n : Int)]) (h ++ [(s.length : Int)]) s vr2 vh2 (.slice (some ⟨g, 0, none⟩) s.length cp)) := ⟨fun q => HR9.out.step ⟨rfl, rfl, rfl, Nat.le_refl _, fun _ _ => rfl⟩⟩
        have A1 : ∀ q, (w3.drewN q).cell? ⟨pb, off + n * 3 + 1, none⟩ = some (.int .i64 (tq : Int)) := fun q => a1
        clear ht1 htb hj2 hnq
        cases x1
        · go_wp2_with fail
          go_quiet (fail)
          have a2 := A1 nq
          go_wp2_with fail
          have hq := HRS.out false (by decide)
          have hq1 : nextT ⟨10, (tq : Int), ib⟩ n s = tq := by unfold nextT; rw [HTB.out]; rfl
          have hq2 : runT 10 false s = s := rfl
          rw [hq1, hq2] at hq
          have HE : Bx _ := ⟨And.intro hq.1 (HR.out.2.2.snoc HR.out.2.1 hq.2)⟩
          have hlt := hq.1.lt
          clear hq hq1 hq2
          exact ⟨⟨tq, k, Br2, Bh2, Bs, _, _, _, by rw [← HJ.out.1, Int.natCast_succ], rfl, hlt, by have := HJ.out.1; have := HJ.out.2; omega, ⟨And.intro (HRN.out _) HE.out⟩⟩, by simp only [intOf]; have := HJ.out.1; have := HJ.out.2; omega⟩
        · go_wp2_with fail
          go_quiet (fail)
          go_wp2_with fail
          have hq := HRS.out false (by decide)
          have hq1 : nextT ⟨10, (tq : Int), ib⟩ n s = n + 1 := by unfold nextT; rw [HTB.out]; rfl
          have hq2 : runT 10 false s = s := rfl
          rw [hq1, hq2] at hq
          have HE : Bx _ := ⟨And.intro hq.1 (HR.out.2.2.snoc HR.out.2.1 hq.2)⟩
          have hlt := hq.1.lt
          clear hq hq1 hq2
          exact ⟨⟨n + 1, k, Br2, Bh2, Bs, _, _, _, by rw [Int.natCast_succ], rfl, hlt, by have := HJ.out.1; have := HJ.out.2; omega, ⟨And.intro (HRN.out _) HE.out⟩⟩, by simp only [intOf]; have := HJ.out.1; have := HJ.out.2; omega⟩
    · as_aux_lemma =>
        have h1s : 1 ≤ s.length := by have := HTK.out; change (1 : Int) = tk at this; omega
        obtain ⟨g, cp, hBs, hv, hle, hmx, hcell⟩ := HR9.out.stk.some h1s
        injection hv with hv1 hv2 hv3
        subst hv1
        have hv4 : cp = cs := hv3.symm
        subst hv4
        clear hv2 hv3 hmx
        obtain ⟨e1, he1⟩ : ∃ e, s.length - 1 = e := ⟨_, rfl⟩
        obtain ⟨x1, hx1⟩ : ∃ x, s[e1]? = some x := ⟨_, List.getElem?_eq_getElem (by omega)⟩
        have r1 : w3.cell? ⟨g, e1, none⟩ = some (.bool x1) := hcell e1 x1 hx1
        have hs1 : (s.length : Int) - 1 = (e1 : Int) := by omega
        have hcp : e1 ≤ cp := by omega
        have hw1 : IntKind.i64.wrap (e1 : Int) = (e1 : Int) := wrap_id_i64 e1 (by omega)
        have hi1 : (0 : Int) ≤ (e1 : Int) ∧ (e1 : Int) < (s.length : Int) := by omega
        have HX1 : Bx (s.length - 1 = e1 ∧ s[e1]? = some x1) := ⟨he1, hx1⟩
        clear hcell he1 hx1 hBs
        obtain ⟨tq, hia, hnq, hql, _⟩ := HST.out.jumps rfl
        simp only [] at hia
        subst hia
        have a1 : w3.cell? ⟨pb, off + n * 3 + 1, none⟩ = some (.int .i64 (tq : Int)) := (HR9.out.below.cell (by rw [← HZ.out]; exact cell_lt (HX.out 1 _ rfl))).trans (HX.out 1 _ rfl)
        obtain ⟨t1, ht1⟩ : ∃ t, tq - 1 = t := ⟨_, rfl⟩
        have hj1 : (tq : Int) - 1 = (t1 : Int) := by omega
        have hj2 : t1 + 1 = tq := by omega
        have HJ : Bx _ := ⟨And.intro hj2 hnq⟩
        have htb : takenB 11 s = (x1 == true) := by
          show (s.getD (s.length - 1) false == (11 == 11)) = _
          rw [HX1.out.1, List.getD_eq_getElem?_getD, HX1.out.2]
          rfl
        have HTB : Bx _ := ⟨htb⟩
        have htl : t1 ≤ 65536 := by omega
        have HRN : Bx (∀ q, RnB w (w3.drewN q) S Br2 Bh2 Bs (r ++ [(n : Int)]) (h ++ [(s.length : Int)]) s vr2 vh2 (.slice (some ⟨g, 0, none⟩) s.length cp)) := ⟨fun q => HR9.out.step ⟨rfl, rfl, rfl, Nat.le_refl _, fun _ _ => rfl⟩⟩
        have A1 : ∀ q, (w3.drewN q).cell? ⟨pb, off + n * 3 + 1, none⟩ = some (.int .i64 (tq : Int)) := fun q => a1
        clear ht1 htb hj2 hnq
        cases x1
        · go_wp2_with fail
          go_quiet (fail)
          go_wp2_with fail
          have hq := HRS.out false (by decide)
          have hq1 : nextT ⟨11, (tq : Int), ib⟩ n s = n + 1 := by unfold nextT; rw [HTB.out]; rfl
          have hq2 : runT 11 false s = s := rfl
          rw [hq1, hq2] at hq
          have HE : Bx _ := ⟨And.intro hq.1 (HR.out.2.2.snoc HR.out.2.1 hq.2)⟩
          have hlt := hq.1.lt
          clear hq hq1 hq2
          exact ⟨⟨n + 1, k, Br2, Bh2, Bs, _, _, _, by rw [Int.natCast_succ], rfl, hlt, by have := HJ.out.1; have := HJ.out.2; omega, ⟨And.intro (HRN.out _) HE.out⟩⟩, by simp only [intOf]; have := HJ.out.1; have := HJ.out.2; omega⟩
        · go_wp2_with fail
          go_quiet (fail)
          have a2 := A1 nq
          go_wp2_with fail
          have hq := HRS.out false (by decide)
          have hq1 : nextT ⟨11, (tq : Int), ib⟩ n s = tq := by unfold nextT; rw [HTB.out]; rfl
          have hq2 : runT 11 false s = s := rfl
          rw [hq1, hq2] at hq
          have HE : Bx _ := ⟨And.intro hq.1 (HR.out.2.2.snoc HR.out.2.1 hq.2)⟩
          have hlt := hq.1.lt
          clear hq hq1 hq2
          exact ⟨⟨tq, k, Br2, Bh2, Bs, _, _, _, by rw [← HJ.out.1, Int.natCast_succ], rfl, hlt, by have := HJ.out.1; have := HJ.out.2; omega, ⟨And.intro (HRN.out _) HE.out⟩⟩, by simp only [intOf]; have := HJ.out.1; have := HJ.out.2; omega⟩
    · as_aux_lemma =>
        have h1s : 1 ≤ s.length := by have := HTK.out; change (1 : Int) = tk at this; omega
        obtain ⟨g, cp, hBs, hv, hle, hmx, hcell⟩ := HR9.out.stk.some h1s
        injection hv with hv1 hv2 hv3
        subst hv1
        have hv4 : cp = cs := hv3.symm
        subst hv4
        clear hv2 hv3 hmx
        obtain ⟨e1, he1⟩ : ∃ e, s.length - 1 = e := ⟨_, rfl⟩
        obtain ⟨x1, hx1⟩ : ∃ x, s[e1]? = some x := ⟨_, List.getElem?_eq_getElem (by omega)⟩
        have r1 : w3.cell? ⟨g, e1, none⟩ = some (.bool x1) := hcell e1 x1 hx1
        have hs1 : (s.length : Int) - 1 = (e1 : Int) := by omega
        have hcp : e1 ≤ cp := by omega
        have hw1 : IntKind.i64.wrap (e1 : Int) = (e1 : Int) := wrap_id_i64 e1 (by omega)
        have hi1 : (0 : Int) ≤ (e1 : Int) ∧ (e1 : Int) < (s.length : Int) := by omega
        have HX1 : Bx (s.length - 1 = e1 ∧ s[e1]? = some x1) := ⟨he1, hx1⟩
        clear hcell he1 hx1 hBs
        have HRn : Bx _ := ⟨HR9.out.takeS e1 cp (by omega) hcp (Nat.le_refl _)⟩
        have hq2' : runT 12 false s = s.take e1 := by
          show s.take (s.length - 1) = _
          rw [HX1.out.1]
        have HQ2 : Bx _ := ⟨hq2'⟩
        clear hq2'
        go_wp2_with fail
        have hq := HRS.out false (by decide)
        have hq1 : nextT ⟨12, ia, ib⟩ n s = n + 1 := rfl
        have hq2 : runT 12 false s = s.take e1 := HQ2.out
        rw [hq1, hq2] at hq
        have HE : Bx _ := ⟨And.intro HRn.out (And.intro hq.1 (HR.out.2.2.snoc HR.out.2.1 hq.2))⟩
        have hlt := hq.1.lt
        clear hq hq1 hq2
        exact ⟨⟨n + 1, k, Br2, Bh2, Bs, _, _, _, by rw [Int.natCast_succ], rfl, hlt, by omega, HE⟩, by simp only [intOf]; omega⟩
    · as_aux_lemma =>
        have hl1 : s.length = 1 := run_end HP.out HR.out.2.1 HF.out rfl
        have he1 : ((s.length : Int) == 1) = true := by rw [hl1]; rfl
        obtain ⟨A1, c1, hv1, hr1, _⟩ := StkI.row HR9.out.ran
        obtain ⟨A2, c2, hv2, hr2, _⟩ := StkI.row HR9.out.hig
        subst hv1
        subst hv2
        have HE : Bx (RanOut w w3 L hs (.tuple #[.slice A1 (r ++ [(n : Int)]).length c1, .slice A2 (h ++ [(s.length : Int)]).length c2, .bool true])) := ⟨⟨_, _, A1, c1, A2, c2, rfl, hr1, hr2, HR.out.2.2.snoc HR.out.2.1 hn⟩⟩
        clear hl1 hr1 hr2
        go_wp2_with fail
        go_ret3
        exact ⟨_, rfl, HE.out, HR9.out.below⟩
end Go.Proofs.YtbcajmkmadgbhaaDoor
