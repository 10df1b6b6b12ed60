/- Verify, plain: what a round of Dead may lean on. Verify: Dead. -/
import Derived.Test.YtbcajmkmadgbhaaGreatDoorVrDa
import Derived.Test.YtbcajmkmadgbhaaGreatDoorVrDp
import Derived.Test.YtbcajmkmadgbhaaGreatDoorVrT
import Derived.Test.YtbcajmkmadgbhaaGreatDoorStk
set_option linter.unusedVariables false
set_option linter.unusedSimpArgs false
namespace Go.Proofs.YtbcajmkmadgbhaaGreatDoor
section
theorem comeT_other {f : Int → Option (List Int)} {n m : Int} {s : List Int} (h : m ≠ n) : comeT f n s m = f m := by
  unfold comeT putT
  rw [if_neg h]
theorem comeT_thr {f : Int → Option (List Int)} {n : Int} {s : List Int} (hf : ∀ m t, f m = some t → Thr t) (hs : Thr s) : ∀ m t, comeT f n s m = some t → Thr t := by
  intro m t ht
  unfold comeT putT at ht
  split at ht
  · injection ht with ht
    subst ht
    cases hn : f n with
    | none => exact hs
    | some a => exact togT_thr (hf n a hn)
  · exact hf m t ht
theorem stepD_thr {i : InsD} {n : Nat} {f : Int → Option (List Int)} {s : List Int} (hf : ∀ m t, f m = some t → Thr t) (hs : Thr s) : ∀ m t, stepD i n f s m = some t → Thr t := by
  unfold stepD
  split
  · split
    · exact comeT_thr hf (behT_thr hs)
    · split
      · exact comeT_thr hf (behT_thr hs)
      · exact comeT_thr (comeT_thr hf (behT_thr hs)) (behT_thr hs)
  · exact comeT_thr hf (behT_thr hs)
theorem ahdF_thr {L : List InsD} : ∀ (n : Nat) (m : Int) (t : List Int), ahdF L n m = some t → Thr t
  | 0, m, t, h => by
    change putT (fun _ => none) 0 [] m = some t at h
    unfold putT at h
    split at h
    · injection h with h
      subst h
      intro x hx
      cases hx
    · cases h
  | n + 1, m, t, h => by
    have ih := ahdF_thr (L := L) n
    cases hL : L[n]? with
    | none => rw [ahdF_over hL] at h; exact ih m t h
    | some i =>
      cases hs : ahdF L n (n : Int) with
      | none => rw [ahdF_dead hL hs] at h; exact ih m t h
      | some s => rw [ahdF_live hL hs] at h; exact stepD_thr ih (ih _ _ hs) m t h
/-- nothing comes to the place behind the code -/
theorem ahdF_top {L : List InsD} (hf : Formed L) (hpos : 0 < L.length) : ∀ n, n < L.length → ahdF L n (L.length : Int) = none
  | 0, _ => by
    show putT (fun _ => none) 0 [] (L.length : Int) = none
    unfold putT
    rw [if_neg (by omega)]
  | n + 1, h => by
    have ih := ahdF_top hf hpos n (by omega)
    have hL : L[n]? = some L[n] := List.getElem?_eq_getElem (by omega)
    cases hs : ahdF L n (n : Int) with
    | none => rw [ahdF_dead hL hs]; exact ih
    | some s =>
      rw [ahdF_live hL hs]
      have hn : (L.length : Int) ≠ (n : Int) + 1 := by omega
      unfold stepD
      split
      · rename_i hj
        have ha := hf.jumps n _ hL hj
        have ha' : (L.length : Int) ≠ (L[n]).a := by omega
        split
        · rw [comeT_other ha']; exact ih
        · split
          · rw [comeT_other hn]; exact ih
          · rw [comeT_other hn, comeT_other ha']; exact ih
      · rw [comeT_other hn]; exact ih
/-- what a round may lean on -/
structure DdS (L : List InsD) (n : Nat) (i : InsD) (s : List Int) : Prop where
  c1 : 1 ≤ i.c
  c2 : i.c ≤ 13
  takes : takesC i.c ≤ (s.length : Int)
  small : s.length ≤ 1000
  bs : (behT i.c s).length ≤ 1000
  thr : Thr s
  j1 : jumpC i.c = true → ∀ a, ahdF L n i.a = some a → a.length = (behT i.c s).length
  j2 : jumpC i.c = true → ∀ a, comeT (ahdF L n) i.a (behT i.c s) ((n : Int) + 1) = some a → a.length = (behT i.c s).length
  f : ∀ a, ahdF L n ((n : Int) + 1) = some a → a.length = (behT i.c s).length
theorem puts_ge (c : Nat) : 0 ≤ putsC c := by
  unfold putsC
  repeat' split
  all_goals simp
theorem takes_le2 (c : Nat) : takesC c ≤ 2 := by
  unfold takesC
  repeat' split
  all_goals simp
theorem dead_round {L : List InsD} {hs : List Int} (hp : PassF L hs) {n : Nat} {i : InsD} {s : List Int} (hi : L[n]? = some i) (ht : ahdF L n (n : Int) = some s) : DdS L n i s := by
  have hc := hp.ok i (List.mem_of_getElem? hi)
  have hc2 : 1 ≤ i.c ∧ i.c ≤ 13 := by unfold okC at hc; simpa using hc
  have hlt : n < L.length := (List.getElem?_eq_some_iff.1 hi).1
  have hl0 := ahdF_len hp.formed hp.hei hp.ok hp.pos n
  have hst := (hei_ok hp.formed hp.hei).step n i _ (Nat.zero_le _) hi (hl0 n s hlt ht)
  have hl := behT_len rfl hst.takes hc2.1 hc2.2
  have hmost := hst.most
  have hpos1 := puts_ge i.c
  have htk := takes_le2 i.c
  have hfall : n + 1 < L.length → hs[n + 1]? = some ((behT i.c s).length : Int) := fun h => by
    have he : endC i.c = false := by
      cases he : endC i.c with
      | false => rfl
      | true => have := (hp.formed.ends n i hi).1 he; omega
    rw [hl]; exact hst.falls he
  have hcast : ((n : Int) + 1) = ((n + 1 : Nat) : Int) := by omega
  refine ⟨hc2.1, hc2.2, hst.takes, by unfold behindC at hmost; omega, by rw [← hl] at hmost; omega, ahdF_thr n _ _ ht, fun hj a ha => ?_, fun hj a ha => ?_, fun a ha => ?_⟩
  · obtain ⟨t, h1, _, h2, h3⟩ := hst.jumps hj
    rw [h1] at ha
    have h4 := hl0 t a h2 ha
    rw [h3, ← hl] at h4
    injection h4 with h4
    omega
  · obtain ⟨t, h1, h0, h2, h3⟩ := hst.jumps hj
    rw [hcast] at ha
    have hn1 : n + 1 < L.length := by omega
    have h4 := comeT_len (N := L.length) (s := behT i.c s) (fun m t' hm h => hl0 m t' hm h) (fun m hm e => by
      have e' : m = t := by rw [h1] at e; omega
      subst e'
      rw [h3, hl]) (n + 1) a hn1 ha
    rw [hfall hn1] at h4
    injection h4 with h4
    omega
  · by_cases hn1 : n + 1 < L.length
    · rw [hcast] at ha
      have h4 := hl0 (n + 1) a hn1 ha
      rw [hfall hn1] at h4
      injection h4 with h4
      omega
    · have e : ((n : Int) + 1) = (L.length : Int) := by omega
      rw [e, ahdF_top hp.formed hp.pos n hlt] at ha
      cases ha
theorem pass_of {D : PrgD} (h : verF D = none) : ∃ hs, PassF D.filter hs ∧ D.filter.length ≤ 65536 := by
  obtain ⟨h1, h2, _, ⟨hs, h3⟩, _, _⟩ := verF_none h
  obtain ⟨h4, h5, h6⟩ := formF_none h2
  refine ⟨hs, ⟨h4, h5, fun i hi => ?_, h3⟩, h1.fi⟩
  obtain ⟨j, hj⟩ := List.getElem?_of_mem hi
  exact (h6 j i hj).1
end
section
open Go.RowKit
open Go.Maps (Keyed)
def deadL (D : PrgD) : List Int := deadF D.filter 0 ahd0 []
/-- what Dead hands back -/
def DeaOut (w w' : World) (D : PrgD) (v : Value) : Prop := match verF D with
  | some x => v = .tuple #[.slice none 0 0, verV (some x)]
  | none => ∃ A c, v = .tuple #[.slice A (deadL D).length c, .nilIface] ∧ I64L w' A (deadL D) ∧ ∀ b off, A = some ⟨b, off, none⟩ → w.heap.size ≤ b
theorem HdB.turned {w w0 w' : World} {S : Nat} {T : List Nat} {D : PrgD} {L : PLoc} (h : HdB w w0 S D L) (ht : Turned T w0 w') (hT : ∀ x ∈ T, S < x) : HdB w w' S D L := by
  have hb : Below (S + 1) w0 w' := ht.below (fun x hx => hT x hx) h.box.lt
  exact ⟨h.box.belowAt (S + 1) (Nat.lt_succ_self _) hb, h.below.trans (hb.mono (Nat.le_succ _)), h.eq, h.m0, h.g0⟩
theorem CB.turned {w w' : World} {b : Nat} {cs : Array Value} {T : List Nat} (h : CB w b cs) (ht : Turned T w w') (hT : b ∉ T) : CB w' b cs := by
  have hl := h.lt
  obtain ⟨ty, h0⟩ := h
  exact ⟨ty, by rw [ht.block b hl hT]; exact h0⟩
abbrev StkI := StkAt (fun z : Int => Value.int .i64 z) 3
/-- what Dead knows at the loop's head -/
structure DdB (w wr : World) (S MB AB cnt : Nat) (D : PrgD) (L : PLoc) (f : Int → Option (List Int)) (B : Option Nat) (d : List Int) (o : Value) : Prop where
  hd : HdB w wr S D L
  ah : AhdAt wr MB cnt f B
  cl : CB wr AB #[.map (some MB)]
  own : StkI wr B o d
  sm : S < MB
  ab : MB < AB
  bo : ∀ g, B = some g → AB < g
section
variable {w wr w' : World} {S MB AB cnt : Nat} {D : PrgD} {L : PLoc} {f : Int → Option (List Int)} {B : Option Nat} {d : List Int} {o : Value}
theorem DdB.step (h : DdB w wr S MB AB cnt D L f B d o) (hb : Below wr.heap.size wr w') : DdB w w' S MB AB cnt D L f B d o :=
  ⟨h.hd.step hb, h.ah.below hb, h.cl.below hb, h.own.below hb, h.sm, h.ab, h.bo⟩
theorem mem_toList {x : Nat} (h : x ∈ B.toList) : B = some x := by
  cases B with
  | none => cases h
  | some g => simp at h; rw [h]
/-- one more that is dead -/
theorem DdB.more {B' : Option Nat} {d' : List Int} {o' : Value} (h : DdB w wr S MB AB cnt D L f B d o) (ht : Turned B.toList wr w') (hB : B' = B ∨ ∃ g, B' = some g ∧ wr.heap.size ≤ g) (hs : StkI w' B' o' d') : DdB w w' S MB AB cnt D L f B' d' o' where
  hd := h.hd.turned ht (fun x hx => by have := h.bo x (mem_toList hx); have := h.sm; have := h.ab; omega)
  ah := h.ah.turned ht (fun e => by have := h.bo MB e; have := h.ab; omega) hB
  cl := h.cl.turned ht (fun hx => by have := h.bo AB (mem_toList hx); omega)
  own := hs
  sm := h.sm
  ab := h.ab
  bo := by
    rcases hB with rfl | ⟨g, rfl, hg⟩
    · exact h.bo
    · intro g' e
      injection e with e
      have := h.cl.lt
      omega
/-- something has come to a place -/
theorem DdB.come {f' : Int → Option (List Int)} {cnt' : Nat} (h : DdB w wr S MB AB cnt D L f B d o) (ht : Turned [MB] wr w') (ha : AhdAt w' MB cnt' f' B) : DdB w w' S MB AB cnt' D L f' B d o where
  hd := h.hd.turned ht (fun x hx => by simp at hx; subst hx; exact h.sm)
  ah := ha
  cl := h.cl.turned ht (fun hx => by simp at hx; have := h.ab; omega)
  own := h.own.turned ht (fun g e hx => by simp at hx; have := h.bo g e; have := h.ab; omega)
  sm := h.sm
  ab := h.ab
  bo := h.bo
end
theorem RowL.noMapT {w w' : World} {A : Option Addr} {l : List Int} {MB cnt : Nat} {f : Int → Option (List Int)} {B : Option Nat} (h : I64L w A l) (ha : AhdAt w MB cnt f B) (ht : Turned [MB] w w') : I64L w' A l := by
  obtain ⟨V, h1, _⟩ := ha.ex
  exact h.noMap h1.isMap ⟨ht.os, ht.tape, ht.output, ht.size, fun k hk hn => ht.block k hk (by simp; intro e; exact hn (by rw [e]))⟩
theorem StkI.row {w : World} {B : Option Nat} {v : Value} {l : List Int} (h : StkI w B v l) : ∃ A c, v = .slice A l.length c ∧ I64L w A l ∧ ∀ b off, A = some ⟨b, off, none⟩ → B = some b := by
  rcases Nat.eq_zero_or_pos l.length with h0 | h0
  · have hl : l = [] := List.length_eq_zero_iff.1 h0
    subst hl
    rcases h.ex with ⟨rfl, _, _⟩ | ⟨g, cap, cur, h1, rfl, _⟩
    · exact ⟨none, 0, rfl, RowL.nil, fun b off e => by cases e⟩
    · exact ⟨_, cap, rfl, RowL.nil, fun b off e => by injection e with e; injection e with e; subst e; exact h1⟩
  · obtain ⟨g, cap, h1, rfl, h2, h3, h4⟩ := h.some h0
    refine ⟨_, cap, rfl, ⟨fun _ => ⟨g, 0, rfl, fun i x hx j v hj => ?_⟩, by unfold maxLen at h3; omega⟩, fun b off e => by injection e with e; injection e with e; subst e; exact h1⟩
    cases j with
    | zero => simp at hj; subst hj; simpa using h4 i x hx
    | succ j => simp at hj
set_option maxHeartbeats 4000000 in
set_option maxRecDepth 100000 in
theorem vdead_any (D : PrgD) (L : PLoc) (w : World) (hM : PrgM w D L) (hB : PrgB D) (hG : GlobK w) (hT : TabU w) :
    Calls Tryz.prog 8 #[prgV D L] w fun e w' => ∃ v, e = .returned v ∧ DeaOut w w' D v ∧ Below w.heap.size w w' := by
  have hmm := @run_makeMap Tryz.prog
  have H0 : Bx _ := ⟨HdB.alloc w D L 28 hM hG⟩
  have HB : Bx _ := ⟨And.intro hB hT⟩
  clear hM hG hB hT
  go_enter Tryz.func8, Tryz.ntmps8
  go_upto_region 1 with (fail)
  generalize (w.alloc (.cells (prgC D L) 28)) = w0 at *
  generalize hS : w.heap.size = S at *
  have HZ : Bx (w.heap.size = S) := ⟨hS⟩
  clear hS
  have p0 := H0.out.box.cell 0 _ rfl
  have p1 := H0.out.box.cell 1 _ rfl
  have p2 := H0.out.box.cell 2 _ rfl
  have p3 := H0.out.box.cell 3 _ rfl
  have p4 := H0.out.box.cell 4 _ rfl
  have p5 := H0.out.box.cell 5 _ rfl
  have p6 := H0.out.box.cell 6 _ rfl
  have p7 := H0.out.box.cell 7 _ rfl
  have p8 := H0.out.box.cell 8 _ rfl
  have p9 := H0.out.box.cell 9 _ rfl
  have p10 := H0.out.box.cell 10 _ rfl
  have p11 := H0.out.box.cell 11 _ rfl
  have p12 := H0.out.box.cell 12 _ rfl
  have p13 := H0.out.box.cell 13 _ rfl
  have kp := program_any D L w0 H0.out.mem HB.out.1 H0.out.glob (HB.out.2.below (by rw [HZ.out]; exact H0.out.below))
  cases hv : verF D with
  | some x =>
    obtain ⟨c, o⟩ := x
    obtain ⟨T, u, hu⟩ := verV_some (o := o) (verF_pos hv)
    rw [hv, hu] at kp
    have HE : Bx (∀ w1, DeaOut w w1 D (.tuple #[.slice none 0 0, .iface T u])) := ⟨fun w1 => by unfold DeaOut; rw [hv]; simp only; rw [hu]⟩
    clear hv hu
    go_wp2_with fail
    refine kp.mono ?_
    rintro e w1 ⟨rfl, hb⟩
    have H1 : Bx _ := ⟨H0.out.step hb⟩
    clear hb kp p0 p1 p2 p3 p4 p5 p6 p7 p8 p9 p10 p11 p12 p13
    go_wp2
    go_ret2
    exact ⟨_, rfl, HE.out _, by rw [HZ.out]; exact H1.out.below⟩
  | none =>
    rw [hv] at kp
    have HV : Bx _ := ⟨hv⟩
    clear hv
    go_wp2_with fail
    refine kp.mono ?_
    rintro e w1 ⟨rfl, hb⟩
    have H1 : Bx _ := ⟨H0.out.step hb⟩
    clear hb kp p0 p1 p2 p3 p4 p5 p6 p7 p8 p9 p10 p11 p12 p13
    simp only [verV]
    go_upto_region 4 with (fail)
    have HM0 : MapAt Tryz.prog ((w1.alloc (.map #[] 0)).alloc (.cells #[] 95)) 3 w1.heap.size 0 (ahdV (fun _ => none) fun _ => .nilIface) := ((MapAt.made Tryz.prog w1 3).alloc _).same (fun l => by unfold ahdV; split <;> rfl)
    obtain ⟨w3, hrun, hm3, ht3⟩ := HM0.store lawI Tryz.underlying89 (by unfold maxLen; omega) (.slice (some ⟨w1.heap.size + 1, 0, none⟩) 0 0) (keyI (z := 0) (by unfold i64B; omega))
    have HA3 : Bx (AhdAt w3 w1.heap.size 1 ahd0 none ∧ Below w1.heap.size w1 w3) := ⟨AhdAt.put (s := []) HM0 (fun j t h => by cases h) RowL.nil (fun _ _ _ _ => by simp) hm3 ht3.grown, (below2 w1 (.map #[] 0) (.cells #[] 95)).grown ht3.grown (below2 _ _ _).size (fun g e => by injection e with e; omega)⟩
    clear HM0 hm3 ht3
    go_upto_region 7 with (fail)
    have h3 := HA3.out.2.size
    have h1 := H1.out.box.lt
    have HI : Bx (DdB w (w3.alloc (.cells #[.map (some w1.heap.size)] 89)) S w1.heap.size w3.heap.size 1 D L ahd0 none [] (.slice none 0 0)) := ⟨⟨(H1.out.step HA3.out.2).step (below1 _ _), HA3.out.1.below (below1 _ _), CB.new w3 _ _, StkAt.nil _ _ _, h1, by have := HA3.out.1.lt; omega, fun g e => by cases e⟩⟩
    obtain ⟨hs0, hP0, hlen⟩ := pass_of HV.out
    have HP : Bx _ := ⟨hP0⟩
    clear hP0
    clear h1 h3 H1 hrun HA3 hmm
    generalize (w3.alloc (.cells #[.map (some w1.heap.size)] 89)) = w4 at *
    generalize w3.heap.size = AB at *
    generalize w1.heap.size = MB at *
    obtain ⟨Afi, hAfi⟩ : ∃ x, L.af = x := ⟨_, rfl⟩
    have p12 : w4.cell? ⟨S, 12, none⟩ = some (.slice Afi D.filter.length L.cf) := by rw [← hAfi]; exact HI.out.hd.box.cell 12 _ rfl
    have HAF : Bx _ := ⟨hAfi⟩
    clear hAfi
    go_wp2_with fail
    go_loopw [7, 27] (fun o i wr => ∃ (j cnt : Nat) (B : Option Nat) (d : List Int), j ≤ D.filter.length ∧ cnt ≤ 1 + 2 * j ∧ d.length ≤ j ∧ i = .int .i64 (j : Int) ∧ Bx (DdB w wr S MB AB cnt D L (ahdF D.filter j) B d o ∧ deadF (D.filter.drop j) j (ahdF D.filter j) d = deadL D)) (fun _ i _ => D.filter.length - (intOf i).toNat)
    case atStart => exact ⟨0, 1, none, [], by omega, by omega, by simp, rfl, ⟨HI.out, rfl⟩⟩
    case round =>
      obtain ⟨j, cnt, B, d, hj, hcnt, hdl, rfl, HR⟩ := hrel
      by_cases hlt : j < D.filter.length
      · obtain ⟨pb, off, hA, hrow⟩ := HR.out.1.hd.mem.filter.row (by omega)
        have hx : D.filter[j]? = some D.filter[j] := List.getElem?_eq_getElem hlt
        have hA2 : Afi = some ⟨pb, off, none⟩ := by rw [← HAF.out]; exact hA
        subst hA2
        have HF : Bx _ := ⟨And.intro (deadF_round hx d) (And.intro hx hA)⟩
        clear hA
        have HIB : Bx (InsB D.filter[j]) := ⟨HB.out.1.filter _ (List.getElem_mem hlt)⟩
        have a0 : wr.cell? ⟨pb, off + j * 3, none⟩ = some (.int .u8 (D.filter[j].c : Int)) := hrow j _ hx 0 _ rfl
        have a1 : wr.cell? ⟨pb, off + j * 3 + 1, none⟩ = some (.int .i64 D.filter[j].a) := hrow j _ hx 1 _ rfl
        have a2 : wr.cell? ⟨pb, off + j * 3 + 2, none⟩ = some (.int .i64 D.filter[j].b) := hrow j _ hx 2 _ rfl
        clear hrow hx
        generalize D.filter[j] = i at *
        obtain ⟨ic, ia, ib⟩ := i
        simp only [] at a0 a1 a2
        have HC1 : Bx _ := ⟨CB.new wr #[.int .u8 (ic : Int), .int .i64 ia, .int .i64 ib] 94⟩
        have HR5 : Bx _ := ⟨HR.out.1.step (below1 wr (.cells #[.int .u8 (ic : Int), .int .i64 ia, .int .i64 ib] 94))⟩
        have HRD : Bx _ := ⟨HR.out.2⟩
        go_upto_region 10 with (fail)
        generalize (wr.alloc (.cells #[.int .u8 (ic : Int), .int .i64 ia, .int .i64 ib] 94)) = w5 at *
        have HIM : Bx (wr.heap.size = MB → False) := ⟨fun e => by have := HR.out.1.ah.lt; omega⟩
        generalize wr.heap.size = IB at *
        clear a0 a1 a2 HR
        obtain ⟨V, m1, m2⟩ := HR5.out.ah.ex
        have hlk := (m1.look lawI Tryz.underlying89 (zeroTs w5) (keyI (z := (j : Int)) (by unfold i64B; omega))).1
        have e0 : ahdV (ahdF D.filter j) V (.int .i64 j) = (ahdF D.filter j j).map fun _ => V j := rfl
        rw [e0] at hlk
        have hcl := HR5.out.cl.at 0 _ rfl
        cases hs : ahdF D.filter j (j : Int) with
        | none =>
          rw [hs] at hlk
          simp only [Option.map_none, Option.getD_none, Option.isSome_none] at hlk
          have HN : Bx (deadS D.filter j d = d ++ [(j : Int)] ∧ ahdF D.filter (j + 1) = ahdF D.filter j) := ⟨by unfold deadS; rw [hs], ahdF_dead HF.out.2.1 hs⟩
          clear hs e0 m1 m2
          go_upto_region 12 with (fail)
          obtain ⟨i0, hi, hiz, hi1, hi2⟩ := info_parts (show (Tryz.prog.info? 3).map (fun i => (i.zero, i.size, i.bytes)) = some (some (.int .i64 0), 1, 8) by kernel_rfl)
          have HI0 : Bx (Tryz.prog.info? 3 = some i0 ∧ i0.zero = some (.int .i64 0) ∧ i0.size = 1 ∧ i0.bytes = 8) := ⟨hi, hiz, hi1, hi2⟩
          clear hi hiz hi1 hi2
          have HO6 : Bx _ := ⟨HR5.out.step (below1 w5 (.cells #[.int .i64 (j : Int)] 3))⟩
          go_wp2_with (first | (at_builtin; refine wpList_stk_push (f := fun z : Int => Value.int .i64 z) rfl _ _ 62 rfl Tryz.underlying62 HI0.out.1 HI0.out.2.1 HI0.out.2.2.1 HI0.out.2.2.2 rfl rfl HO6.out.own ⟨w5.heap.size, 0, none⟩ 1 (j : Int) rfl (newsI w5 _ _ 0 _ rfl) rfl (by unfold maxLen; omega) (by omega) ?_; intro B' v3 w3 hst htu hB'; have HN3 : Bx _ := ⟨HO6.out.more htu hB' hst⟩; clear hst htu hB') | fail)
          exact ⟨⟨j + 1, cnt, B', d ++ [(j : Int)], by omega, by omega, by rw [List.length_append, List.length_singleton]; omega, by rw [Int.natCast_succ], ⟨by rw [HN.out.2]; exact HN3.out, by rw [← HN.out.1, ← HF.out.1]; exact HRD.out⟩⟩, by simp only [intOf]; omega⟩
        | some s =>
          rw [hs] at hlk
          simp only [Option.map_some, Option.getD_some, Option.isSome_some] at hlk
          obtain ⟨A, c, hV, hrow, hnB⟩ := m2 _ s hs
          rw [hV] at hlk
          have HN : Bx (deadS D.filter j d = d ∧ ahdF D.filter (j + 1) = stepD ⟨ic, ia, ib⟩ j (ahdF D.filter j) s) := ⟨by unfold deadS; rw [hs], ahdF_live HF.out.2.1 hs⟩
          have HS : Bx _ := ⟨dead_round HP.out HF.out.2.1 hs⟩
          have HRW : Bx _ := ⟨hrow⟩
          clear e0 m1 m2 hV hrow hnB hs
          obtain ⟨tp, htp⟩ : ∃ t, topT s = t := ⟨_, rfl⟩
          have htp3 : tp = 0 ∨ tp = 1 ∨ tp = 2 := by
            rw [← htp]
            unfold topT
            split
            · exact HS.out.thr.get _
            · exact Or.inl rfl
          have HTP : Bx _ := ⟨htp⟩
          clear htp
          go_upto_if 46 with (fail)
          go_cut [10, 12] from 28 to 87 (fun st g wx => st = .slice A s.length c ∧ g = .int .i64 tp ∧ wx = w5)
          case first =>
            by_cases hsl : 0 < s.length
            · obtain ⟨tb, toff, rfl, hcells⟩ := row_one HRW.out hsl
              obtain ⟨e2, he2⟩ : ∃ e, s.length - 1 = e := ⟨_, rfl⟩
              have r2 : w5.cell? ⟨tb, toff + e2, none⟩ = some (.int .i64 tp) := by
                have h1 : topT s = s.getD e2 0 := by unfold topT; rw [if_pos hsl, he2]
                rw [← HTP.out, h1]
                exact hcells e2 _ (by rw [List.getD_eq_getElem?_getD, List.getElem?_eq_getElem (show e2 < s.length by omega)]; rfl)
              have hs1 : (s.length : Int) - 1 = (e2 : Int) := by omega
              have hel : e2 < s.length := by omega
              have hsm : s.length ≤ 1000 := HS.out.small
              have hem : e2 ≤ 1000 := by omega
              have hb1 : decide ((s.length : Int) > 0) = true := decide_eq_true (by omega)
              have hb2 : decide ((0 : Int) < (s.length : Int)) = true := decide_eq_true (by omega)
              have hb3 : decide (0 < s.length) = true := decide_eq_true (by omega)
              clear hcells he2
              go_wp2_with fail
              go_meet
              exact ⟨rfl, rfl, rfl⟩
            · have htz : tp = 0 := by rw [← HTP.out]; unfold topT; rw [if_neg hsl]
              subst htz
              have h0 : s.length = 0 := by omega
              clear hsl
              go_wp2_with fail
              go_meet
              exact ⟨by rw [h0], rfl, rfl⟩
          case rest =>
            obtain ⟨rfl, rfl, rfl⟩ := hcut
            obtain ⟨u, hu⟩ : ∃ u, sureT ic s = u := ⟨_, rfl⟩
            have hu3 : u = 0 ∨ u = 1 ∨ u = 2 := by
              rw [← hu]
              unfold sureT
              split
              · exact notT_thr _
              · rw [HTP.out]; exact htp3
            have HU : Bx _ := ⟨hu⟩
            clear hu
            have q0 := HC1.out.at 0 _ rfl
            have q1 := HC1.out.at 1 _ rfl
            have q2 := HC1.out.at 2 _ rfl
            go_wp2_with fail
            refine (behind_any ic ia ib A s c wc HRW.out HS.out.small HS.out.thr HS.out.c1 HS.out.c2 HS.out.takes).mono ?_
            rintro e w6 ⟨v, rfl, ⟨A2, c2, rfl, hrow2, hnew2⟩, hb⟩
            obtain ⟨N, hN⟩ : ∃ N, behT ic s = N := ⟨_, rfl⟩
            rw [hN] at hrow2
            have HNN : Bx _ := ⟨hN⟩
            rw [hN]
            have H6 : Bx _ := ⟨And.intro (HR5.out.step hb) (And.intro (HC1.out.below hb) (And.intro hrow2 fun b off e => And.intro (hnew2 b off e) (fun g (hg : B = some g) => HR5.out.own.lt g hg)))⟩
            have hnl : N.length ≤ 1000 := by rw [← hN]; exact HS.out.bs
            clear hb hrow2 hnew2 hN q0 q1 q2 hlk
            have q0 := H6.out.2.1.at 0 _ rfl
            have q1 := H6.out.2.1.at 1 _ rfl
            have kj := fun x => jumps_any ic x
            obtain ⟨Jn, hJ⟩ : ∃ b, jumpC ic = b := ⟨_, rfl⟩
            rw [hJ] at kj
            have HJ : Bx _ := ⟨hJ⟩
            clear hJ
            have hBne : ∀ b off, A2 = some ⟨b, off, none⟩ → 0 < N.length → B ≠ some b := fun b off e _ eB => by
              have h1 := H6.out.2.2.2 b off e
              have := h1.2 b eB
              omega
            have HBN : Bx _ := ⟨hBne⟩
            clear hBne
            go_upto_if 59 with (fail)
            go_cut [14] from 57 to 87 (fun g wx => g = .int .i64 u ∧ wx = w6)
            case first =>
              have hE : ((ic : Int) == 10) = (ic == 10) := beq_code ic 10
              obtain ⟨X, hX⟩ : ∃ X, (ic == 10) = X := ⟨_, rfl⟩
              rw [hX] at hE
              have HX : Bx _ := ⟨hX⟩
              clear hX
              cases X
              · go_wp2_with fail
                go_meet
                have : u = tp := by rw [← HU.out, ← HTP.out]; unfold sureT; rw [if_neg (by have := HX.out; simpa using this)]
                exact ⟨by rw [this], rfl⟩
              · go_wp2_with fail
                refine (tnot_any tp _ htp3).mono ?_
                rintro e w7 ⟨rfl, rfl⟩
                go_wp2_with fail
                go_meet
                have : u = notT tp := by rw [← HU.out, ← HTP.out]; unfold sureT; rw [if_pos (by have := HX.out; simpa using this)]
                exact ⟨by rw [this], rfl⟩
            case rest =>
              obtain ⟨rfl, rfl⟩ := hcut
              go_wp2_with fail
              refine (kj _).mono ?_
              rintro e w7 ⟨rfl, rfl⟩
              cases Jn
              · go_wp2_with fail
                refine (kj _).mono ?_
                rintro e w7 ⟨rfl, rfl⟩
                go_wp2_with fail
                refine (come_any ((j : Int) + 1) A2 N c2 AB MB cnt (ahdF D.filter j) wc (by unfold i64B; omega) (H6.out.1.cl.at 0 _ rfl) H6.out.1.ah H6.out.1.own.lt H6.out.2.2.1 HBN.out (fun a ha => by rw [← HNN.out]; exact HS.out.f a ha) hnl (by omega)).mono ?_
                rintro e w8 ⟨rfl, ha, ht⟩
                have HZ8 : Bx (DdB w w8 S MB AB (cnt + 1) D L (ahdF D.filter (j + 1)) B d _) := ⟨by
                  rw [HN.out.2]
                  unfold stepD
                  rw [if_neg (by rw [HJ.out]; simp), HNN.out]
                  exact H6.out.1.come ht ha⟩
                clear ha ht
                go_wp2_with fail
                exact ⟨⟨j + 1, cnt + 1, B, d, by omega, by omega, by omega, by rw [Int.natCast_succ], ⟨HZ8.out, by rw [← HN.out.1, ← HF.out.1]; exact HRD.out⟩⟩, by simp only [intOf]; omega⟩
              · have hjI := HS.out.j1 HJ.out
                rcases hu3 with rfl | rfl | rfl
                · go_wp2_with fail
                  refine (come_any ia A2 N c2 AB MB cnt (ahdF D.filter j) wc HIB.out.a (H6.out.1.cl.at 0 _ rfl) H6.out.1.ah H6.out.1.own.lt H6.out.2.2.1 HBN.out (fun a ha => by rw [← HNN.out]; exact hjI a ha) hnl (by omega)).mono ?_
                  rintro e w8 ⟨rfl, ha, ht⟩
                  have H8 : Bx _ := ⟨And.intro (H6.out.1.come ht ha) (And.intro (show I64L w8 A2 N from RowL.noMapT H6.out.2.2.1 H6.out.1.ah ht) (CB.turned H6.out.2.1 ht (fun hx => by simp at hx; exact (HIM.out hx).elim)))⟩
                  clear ha ht q0 q1
                  have q0 := H8.out.2.2.at 0 _ rfl
                  go_wp2_with fail
                  refine (kj _).mono ?_
                  rintro e w9 ⟨rfl, rfl⟩
                  go_wp2_with fail
                  refine (come_any ((j : Int) + 1) A2 N c2 AB MB (cnt + 1) (comeT (ahdF D.filter j) ia N) w8 (by unfold i64B; omega) (H8.out.1.cl.at 0 _ rfl) H8.out.1.ah H8.out.1.own.lt H8.out.2.1 HBN.out (fun a ha => by rw [← HNN.out] at ha ⊢; exact HS.out.j2 HJ.out a ha) hnl (by omega)).mono ?_
                  rintro e w10 ⟨rfl, ha, ht⟩
                  have HZ8 : Bx (DdB w w10 S MB AB (cnt + 2) D L (ahdF D.filter (j + 1)) B d _) := ⟨by
                    rw [HN.out.2]
                    unfold stepD
                    rw [if_pos HJ.out, if_neg (by rw [HU.out]; simp), if_neg (by rw [HU.out]; simp), HNN.out]
                    exact H8.out.1.come ht ha⟩
                  clear ha ht
                  go_wp2_with fail
                  exact ⟨⟨j + 1, cnt + 2, B, d, by omega, by omega, by omega, by rw [Int.natCast_succ], ⟨HZ8.out, by rw [← HN.out.1, ← HF.out.1]; exact HRD.out⟩⟩, by simp only [intOf]; omega⟩
                · go_wp2_with fail
                  refine (come_any ia A2 N c2 AB MB cnt (ahdF D.filter j) wc HIB.out.a (H6.out.1.cl.at 0 _ rfl) H6.out.1.ah H6.out.1.own.lt H6.out.2.2.1 HBN.out (fun a ha => by rw [← HNN.out]; exact hjI a ha) hnl (by omega)).mono ?_
                  rintro e w8 ⟨rfl, ha, ht⟩
                  have H8 : Bx _ := ⟨And.intro (H6.out.1.come ht ha) (CB.turned H6.out.2.1 ht (fun hx => by simp at hx; exact (HIM.out hx).elim))⟩
                  clear ha ht q0 q1
                  have q0 := H8.out.2.at 0 _ rfl
                  go_wp2_with fail
                  refine (kj _).mono ?_
                  rintro e w9 ⟨rfl, rfl⟩
                  have HZ8 : Bx (DdB w w8 S MB AB (cnt + 1) D L (ahdF D.filter (j + 1)) B d _) := ⟨by
                    rw [HN.out.2]
                    unfold stepD
                    rw [if_pos HJ.out, if_pos HU.out, HNN.out]
                    exact H8.out.1⟩
                  go_wp2_with fail
                  exact ⟨⟨j + 1, cnt + 1, B, d, by omega, by omega, by omega, by rw [Int.natCast_succ], ⟨HZ8.out, by rw [← HN.out.1, ← HF.out.1]; exact HRD.out⟩⟩, by simp only [intOf]; omega⟩
                · go_wp2_with fail
                  refine (kj _).mono ?_
                  rintro e w7 ⟨rfl, rfl⟩
                  go_wp2_with fail
                  refine (come_any ((j : Int) + 1) A2 N c2 AB MB cnt (ahdF D.filter j) wc (by unfold i64B; omega) (H6.out.1.cl.at 0 _ rfl) H6.out.1.ah H6.out.1.own.lt H6.out.2.2.1 HBN.out (fun a ha => by rw [← HNN.out]; exact HS.out.f a ha) hnl (by omega)).mono ?_
                  rintro e w8 ⟨rfl, ha, ht⟩
                  have HZ8 : Bx (DdB w w8 S MB AB (cnt + 1) D L (ahdF D.filter (j + 1)) B d _) := ⟨by
                    rw [HN.out.2]
                    unfold stepD
                    rw [if_pos HJ.out, if_neg (by rw [HU.out]; simp), if_pos HU.out, HNN.out]
                    exact H6.out.1.come ht ha⟩
                  clear ha ht
                  go_wp2_with fail
                  exact ⟨⟨j + 1, cnt + 1, B, d, by omega, by omega, by omega, by rw [Int.natCast_succ], ⟨HZ8.out, by rw [← HN.out.1, ← HF.out.1]; exact HRD.out⟩⟩, by simp only [intOf]; omega⟩
      · have hd : d = deadL D := by
          have h := HR.out.2
          rw [show j = D.filter.length by omega, deadF_last] at h
          exact h
        obtain ⟨A, c, rfl, hrow, hnew⟩ := StkI.row HR.out.1.own
        have HE : Bx (DeaOut w wr D (.tuple #[.slice A d.length c, .nilIface])) := ⟨by unfold DeaOut; rw [HV.out]; exact ⟨A, c, by rw [hd], by rw [← hd]; exact hrow, fun b off e => by have := HR.out.1.bo b (hnew b off e); have := HR.out.1.sm; have := HR.out.1.ab; have := HZ.out; omega⟩⟩
        clear hrow hnew hd
        go_wp2
        go_ret2
        exact ⟨_, rfl, HE.out, by rw [HZ.out]; exact HR.out.1.hd.below⟩
end
end Go.Proofs.YtbcajmkmadgbhaaGreatDoor
