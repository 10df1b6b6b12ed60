/- Verify: machine.form. Condition: code.table holds what the program's text lays in it. -/
import Derived.Test.YtbcajmkmadgbhaaGreatDoorVrF
import Derived.Deep.Cut
set_option linter.unusedSimpArgs false
set_option linter.unusedVariables false
namespace Go.Proofs.YtbcajmkmadgbhaaGreatDoor
open Go.RowKit
abbrev machC (A : Option Addr) (n cap : Nat) (fi : Bool) (k : Int) : Array Value := #[.slice A n cap, .bool fi, .int .i64 k]
/-- an error of a place, or none -/
def optV (o : Option (Int × Int)) : Value := match o with | none => .nilIface | some (p, c) => atV p c
theorem form1_any (c : Int) (hc : 1 ≤ c) (S b k j : Nat) (w : World) (hk : k ≤ 1048576) (hj : j ≤ 1048576) (h1 : w.cell? ⟨S, 2, none⟩ = some (.int .i64 (k : Int))) (h2 : w.cell? ⟨b, 0, none⟩ = some (.int .i64 (j : Int))) :
    Calls Tryz.prog 100 #[.int .i64 c, .pointer (some ⟨S, 0, none⟩), .pointer (some ⟨b, 0, none⟩)] w fun e w' => e = .returned (atV ((k : Int) + (j : Int)) c) ∧ w = w' := by
  have ka := fun p w => vat_any p c w hc
  go_enter Tryz.func100, Tryz.ntmps100
  go_wp2_with fail
  refine (ka _ _).mono ?_
  rintro e w1 ⟨rfl, rfl⟩
  go_wp2
  go_ret
  exact ⟨rfl, rfl⟩
/-- what a round of form knows -/
structure FmB (w : World) (S b : Nat) (A : Option Addr) (n cap : Nat) (fi : Bool) (k : Nat) (D : PrgD) (L : PLoc) (j : Nat) (i : InsD) : Prop where
  mach : ∃ T, w.heap[S]? = some (.cells (machC A n cap fi k) T (0, 0))
  box : PBox w (S + 1) D L
  nc : w.cell? ⟨b, 0, none⟩ = some (.int .i64 (j : Int))
  ic : ∃ T, w.heap[b + 1]? = some (.cells (insC i) T (0, 0))
  mem : PrgM w D L
  tab : TabU w
theorem FmB.below {w w' : World} {S b : Nat} {A : Option Addr} {n cap : Nat} {fi : Bool} {k : Nat} {D : PrgD} {L : PLoc} {j : Nat} {i : InsD} (h : FmB w S b A n cap fi k D L j i) (hb : Below w.heap.size w w') : FmB w' S b A n cap fi k D L j i where
  mach := by obtain ⟨T, h⟩ := h.mach; exact ⟨T, by rw [hb.block S (block_lt h)]; exact h⟩
  box := h.box.below hb
  nc := by rw [hb.cell (cell_lt h.nc)]; exact h.nc
  ic := by obtain ⟨T, h⟩ := h.ic; exact ⟨T, by rw [hb.block (b + 1) (block_lt h)]; exact h⟩
  mem := h.mem.below hb
  tab := h.tab.below hb
theorem FmB.m {w : World} {S b : Nat} {A : Option Addr} {n cap : Nat} {fi : Bool} {k : Nat} {D : PrgD} {L : PLoc} {j : Nat} {i : InsD} (h : FmB w S b A n cap fi k D L j i) : w.cell? ⟨S, 0, none⟩ = some (.slice A n cap) ∧ w.cell? ⟨S, 1, none⟩ = some (.bool fi) ∧ w.cell? ⟨S, 2, none⟩ = some (.int .i64 k) := by
  obtain ⟨T, h⟩ := h.mach
  exact ⟨cells_at h 0 _ rfl, cells_at h 1 _ rfl, cells_at h 2 _ rfl⟩
theorem FmB.i {w : World} {S b : Nat} {A : Option Addr} {n cap : Nat} {fi : Bool} {k : Nat} {D : PrgD} {L : PLoc} {j : Nat} {i : InsD} (h : FmB w S b A n cap fi k D L j i) : w.cell? ⟨b + 1, 0, none⟩ = some (.int .u8 (i.c : Int)) ∧ w.cell? ⟨b + 1, 1, none⟩ = some (.int .i64 i.a) ∧ w.cell? ⟨b + 1, 2, none⟩ = some (.int .i64 i.b) := by
  obtain ⟨T, h⟩ := h.ic
  exact ⟨cells_at h 0 _ rfl, cells_at h 1 _ rfl, cells_at h 2 _ rfl⟩
/-- the two boxes ahead of the loop -/
structure FmA (w w0 : World) (S : Nat) (A : Option Addr) (l : List InsD) (cap : Nat) (fi : Bool) (k : Nat) (D : PrgD) (L : PLoc) : Prop where
  mach : ∃ T, w0.heap[S]? = some (.cells (machC A l.length cap fi k) T (0, 0))
  box : PBox w0 (S + 1) D L
  below : Below S w w0
  mem : PrgM w0 D L
  tab : TabU w0
  row : InsL w0 A l
theorem FmA.alloc (w : World) (A : Option Addr) (l : List InsD) (cap : Nat) (fi : Bool) (k : Nat) (D : PrgD) (L : PLoc) (T1 T2 : TypeId) (hM : PrgM w D L) (hT : TabU w) (hr : InsL w A l) :
    FmA w ((w.alloc (.cells (machC A l.length cap fi k) T1)).alloc (.cells (prgC D L) T2)) w.heap.size A l cap fi k D L where
  mach := ⟨T1, by rw [(below1 (w.alloc (.cells (machC A l.length cap fi k) T1)) _).block w.heap.size (by simp only [heap_push, Array.size_push]; omega)]; exact heap_alloc_new w _⟩
  box := by
    have := PBox.alloc (w.alloc (.cells (machC A l.length cap fi k) T1)) D L T2
    simpa only [heap_push, Array.size_push] using this
  below := below2 _ _ _
  mem := hM.below (below2 _ _ _)
  tab := hT.below (below2 _ _ _)
  row := hr.below (below2 _ _ _)
theorem FmA.lt {w w0 : World} {S : Nat} {A : Option Addr} {l : List InsD} {cap : Nat} {fi : Bool} {k : Nat} {D : PrgD} {L : PLoc} (h : FmA w w0 S A l cap fi k D L) : S < w0.heap.size := by
  have := h.box.lt; omega
theorem FmA.round {w w0 wr : World} {S : Nat} {A : Option Addr} {l : List InsD} {cap : Nat} {fi : Bool} {k : Nat} {D : PrgD} {L : PLoc} (h : FmA w w0 S A l cap fi k D L) (hb : Below w0.heap.size w0 wr) (j : Nat) (i : InsD) (T1 T2 : TypeId) :
    FmB ((wr.alloc (.cells #[.int .i64 (j : Int)] T1)).alloc (.cells (insC i) T2)) S wr.heap.size A l.length cap fi k D L j i where
  mach := by
    obtain ⟨T, h0⟩ := h.mach
    exact ⟨T, by rw [(below2 wr _ _).block S (Nat.lt_of_lt_of_le h.lt hb.size), hb.block S h.lt]; exact h0⟩
  box := (h.box.below hb).below (below2 _ _ _)
  nc := by
    rw [(below1 (wr.alloc _) _).cell (p := ⟨wr.heap.size, 0, none⟩) (by simp only [heap_push, Array.size_push]; omega)]
    exact cells_at (heap_alloc_new wr _) 0 _ rfl
  ic := ⟨T2, by
    have := heap_alloc_new (wr.alloc (.cells #[.int .i64 (j : Int)] T1)) (.cells (insC i) T2)
    simpa only [heap_push, Array.size_push] using this⟩
  mem := (h.mem.below hb).below (below2 _ _ _)
  tab := (h.tab.below hb).below (below2 _ _ _)
theorem of_no (A : Option Addr) (n cap : Nat) (fi : Bool) (k : Int) (c : Nat) (hc : c < 256) (ho : okC fi c = false) (w : World) : Calls Tryz.prog 79 #[machV A n cap fi k, .int .u8 c] w fun e w' => e = .returned (.tuple #[.agg #[.int .i64 0, .int .i64 0, .bool false, .bool false], .bool false]) ∧ Below w.heap.size w w' := by
  have h := of_any A n cap fi k c hc w
  rw [ho, show ofV fi c = .agg #[.int .i64 0, .int .i64 0, .bool false, .bool false] by unfold ofV; rw [ho]; rfl] at h
  exact h
theorem of_yes (A : Option Addr) (n cap : Nat) (fi : Bool) (k : Int) (c : Nat) (hc : c < 256) (ho : okC fi c = true) (w : World) : Calls Tryz.prog 79 #[machV A n cap fi k, .int .u8 c] w fun e w' => e = .returned (.tuple #[.agg #[.int .i64 (takesC c), .int .i64 (putsC c), .bool (okC true c), .bool (okC false c)], .bool true]) ∧ Below w.heap.size w w' := by
  have h := of_any A n cap fi k c hc w
  rw [show ofV fi c = .agg #[.int .i64 (takesC c), .int .i64 (putsC c), .bool (okC true c), .bool (okC false c)] by unfold ofV; rw [ho]; rfl, ho] at h
  exact h
theorem fm_stop {fi : Bool} {D : PrgD} {l : List InsD} {R : Option (Nat × Int)} {j : Nat} {i : InsD} {e : Int} (hR : formL fi D l.length l 0 = R) (hI : formL fi D l.length (l.drop j) j = R) (hF : l.drop j = i :: l.drop (j + 1)) (he : errC fi D l.length j i = e) (hne : e ≠ 0) : formF fi D l = some (j, e) := by
  rw [hF] at hI
  unfold formL at hI
  rw [he, if_neg hne] at hI
  unfold formF
  rw [hR, ← hI]
theorem fm_go {fi : Bool} {D : PrgD} {l : List InsD} {R : Option (Nat × Int)} {j : Nat} {i : InsD} (hI : formL fi D l.length (l.drop j) j = R) (hF : l.drop j = i :: l.drop (j + 1)) (he : errC fi D l.length j i = 0) : formL fi D l.length (l.drop (j + 1)) (j + 1) = R := by
  rw [hF] at hI
  unfold formL at hI
  rwa [if_pos he] at hI
theorem fm_v {fi : Bool} {D : PrgD} {l : List InsD} {k j : Nat} {e : Int} {V : Value} (hV : V = optV ((formF fi D l).map fun x => ((k : Int) + (x.1 : Int), x.2))) (h : formF fi D l = some (j, e)) : V = atV ((k : Int) + (j : Int)) e := by
  rw [hV, h]; rfl
theorem jump_le (c : Nat) : jumpC c = true → c = 10 ∨ c = 11 := by
  unfold jumpC; simp
set_option maxHeartbeats 8000000 in
set_option maxRecDepth 100000 in
theorem form_any (A : Option Addr) (l : List InsD) (cap : Nat) (fi : Bool) (k : Nat) (D : PrgD) (L : PLoc) (w : World) (hM : PrgM w D L) (hT : TabU w) (hr : InsL w A l) (hB : ∀ i ∈ l, InsB i) (hk : k ≤ 1048576) (hl : l.length ≤ 1048576) :
    Calls Tryz.prog 77 #[machV A l.length cap fi k, prgV D L] w fun e w' => e = .returned (optV ((formF fi D l).map fun x => ((k : Int) + (x.1 : Int), x.2))) ∧ Below w.heap.size w w' := by
  have H0 : Bx _ := ⟨FmA.alloc w A l cap fi k D L 84 28 hM hT hr⟩
  have HB : Bx _ := ⟨hB⟩
  obtain ⟨V, hV⟩ : ∃ V, V = optV ((formF fi D l).map fun x => ((k : Int) + (x.1 : Int), x.2)) := ⟨_, rfl⟩
  rw [← hV]
  have HV : Bx _ := ⟨hV⟩
  clear hV hM hT hr hB
  go_enter Tryz.func77, Tryz.ntmps77
  go_wp2_with fail
  generalize ((w.alloc (.cells #[.slice A l.length cap, .bool fi, .int .i64 (k : Int)] 84)).alloc (.cells (prgC D L) 28)) = w0 at *
  generalize hS : w.heap.size = S at *
  have HZ : Bx (w.heap.size = S) := ⟨hS⟩
  clear hS
  obtain ⟨R, hR⟩ : ∃ R, formL fi D l.length l 0 = R := ⟨_, rfl⟩
  have HR : Bx (formL fi D l.length l 0 = R) := ⟨hR⟩
  clear hR
  go_loopw [13] (fun i wr => ∃ j : Nat, j ≤ l.length ∧ i = .int .i64 (j : Int) ∧ Bx (Below w0.heap.size w0 wr ∧ formL fi D l.length (l.drop j) j = R)) (fun i _ => l.length - (intOf i).toNat)
  case atStart => exact ⟨0, by omega, rfl, ⟨Below.refl _ _, HR.out⟩⟩
  case round =>
    obtain ⟨j, hj, rfl, HI⟩ := hrel
    by_cases hlt : j < l.length
    · obtain ⟨pb, off, hA, hrow⟩ := H0.out.row.row (by omega)
      have hx : l[j]? = some l[j] := List.getElem?_eq_getElem hlt
      have HM : Bx (InsB l[j]) := ⟨HB.out _ (List.getElem_mem hlt)⟩
      have HF : Bx (l.drop j = l[j] :: l.drop (j + 1)) := ⟨List.drop_eq_getElem_cons hlt⟩
      have a0 : wr.cell? ⟨pb, off + j * 3, none⟩ = some (.int .u8 (l[j].c : Int)) := by
        have h := hrow j _ hx 0 _ rfl
        exact (HI.out.1.cell (cell_lt h)).trans h
      have a1 : wr.cell? ⟨pb, off + j * 3 + 1, none⟩ = some (.int .i64 l[j].a) := by
        have h := hrow j _ hx 1 _ rfl
        exact (HI.out.1.cell (cell_lt h)).trans h
      have a2 : wr.cell? ⟨pb, off + j * 3 + 2, none⟩ = some (.int .i64 l[j].b) := by
        have h := hrow j _ hx 2 _ rfl
        exact (HI.out.1.cell (cell_lt h)).trans h
      have HFM : Bx _ := ⟨H0.out.round HI.out.1 j l[j] 3 94⟩
      generalize l[j] = i at *
      obtain ⟨c, a, b⟩ := i
      subst hA
      clear hrow hx
      have m0 : ((wr.alloc (.cells #[.int .i64 (j : Int)] 3)).alloc (.cells #[.int .u8 (c : Int), .int .i64 a, .int .i64 b] 94)).cell? ⟨S, 0, none⟩ = some (.slice (some ⟨pb, off, none⟩) l.length cap) := HFM.out.m.1
      have m1 : ((wr.alloc (.cells #[.int .i64 (j : Int)] 3)).alloc (.cells #[.int .u8 (c : Int), .int .i64 a, .int .i64 b] 94)).cell? ⟨S, 1, none⟩ = some (.bool fi) := HFM.out.m.2.1
      have m2 : ((wr.alloc (.cells #[.int .i64 (j : Int)] 3)).alloc (.cells #[.int .u8 (c : Int), .int .i64 a, .int .i64 b] 94)).cell? ⟨S, 2, none⟩ = some (.int .i64 (k : Int)) := HFM.out.m.2.2
      have hbw := HI.out.1.trans ((below2 wr (.cells #[.int .i64 (j : Int)] 3) (.cells #[.int .u8 (c : Int), .int .i64 a, .int .i64 b] 94)).mono HI.out.1.size)
      have HW : Bx _ := ⟨hbw⟩
      clear hbw
      cases hO : okC fi c with
      | false =>
        have kof := of_no (some ⟨pb, off, none⟩) l.length cap fi k c HM.out.c hO
        have HE : Bx (formF fi D l = some (j, 180)) := ⟨fm_stop HR.out HI.out.2 HF.out (by unfold errC; rw [if_pos hO]) (by decide)⟩
        clear hO
        go_wp2_with fail
        refine (kof _).mono ?_
        rintro e w2 ⟨rfl, hb⟩
        have HG2 : Bx _ := ⟨HFM.out.below hb⟩
        have HW2 : Bx _ := ⟨HW.out.trans (hb.mono HW.out.size)⟩
        have HG3 : Bx _ := ⟨HG2.out.below (below1 w2 (.cells #[.int .i64 0, .int .i64 0, .bool false, .bool false] 126))⟩
        have HW3 : Bx _ := ⟨HW2.out.trans ((below1 w2 (.cells #[.int .i64 0, .int .i64 0, .bool false, .bool false] 126)).mono HW2.out.size)⟩
        clear hb m0 m1 m2 a0 a1 a2 HFM HW kof HG2 HW2
        have kf := form1_any 180 (by decide) S wr.heap.size k j _ hk (by omega) HG3.out.m.2.2 HG3.out.nc
        go_wp2_with fail
        refine kf.mono ?_
        rintro e w4 ⟨rfl, rfl⟩
        clear kf
        go_wp2
        go_ret
        exact ⟨by rw [fm_v HV.out HE.out]; rfl, by rw [HZ.out]; exact H0.out.below.trans (HW3.out.mono (Nat.le_of_lt H0.out.lt))⟩
      | true =>
        have kof := of_yes (some ⟨pb, off, none⟩) l.length cap fi k c HM.out.c hO
        have HO : Bx (okC fi c = true) := ⟨hO⟩
        clear hO
        generalize takesC c = X1 at kof
        generalize putsC c = X2 at kof
        generalize okC true c = X3 at kof
        generalize okC false c = X4 at kof
        go_wp2_with fail
        refine (kof _).mono ?_
        rintro e w2 ⟨rfl, hb⟩
        have HG2 : Bx _ := ⟨HFM.out.below hb⟩
        have HW2 : Bx _ := ⟨HW.out.trans (hb.mono HW.out.size)⟩
        have HG3 : Bx _ := ⟨HG2.out.below (below1 w2 (.cells #[.int .i64 X1, .int .i64 X2, .bool X3, .bool X4] 126))⟩
        have HW3 : Bx _ := ⟨HW2.out.trans ((below1 w2 (.cells #[.int .i64 X1, .int .i64 X2, .bool X3, .bool X4] 126)).mono HW2.out.size)⟩
        clear hb m0 m1 m2 a0 a1 a2 HFM HW kof HG2 HW2
        go_upto_region 6 with (fail)
        generalize (w2.alloc (.cells #[.int .i64 X1, .int .i64 X2, .bool X3, .bool X4] 126)) = w3 at *
        generalize wr.heap.size = B at *
        have p0 := HG3.out.box.cell 0 _ rfl
        have p1 := HG3.out.box.cell 1 _ rfl
        have p2 := HG3.out.box.cell 2 _ rfl
        have p3 := HG3.out.box.cell 3 _ rfl
        have p4 := HG3.out.box.cell 4 _ rfl
        have p5 := HG3.out.box.cell 5 _ rfl
        have p6 := HG3.out.box.cell 6 _ rfl
        have p7 := HG3.out.box.cell 7 _ rfl
        have p8 := HG3.out.box.cell 8 _ rfl
        have p9 := HG3.out.box.cell 9 _ rfl
        have p10 := HG3.out.box.cell 10 _ rfl
        have p11 := HG3.out.box.cell 11 _ rfl
        have p12 := HG3.out.box.cell 12 _ rfl
        have p13 := HG3.out.box.cell 13 _ rfl
        obtain ⟨i0, i1, i2⟩ := HG3.out.i
        have ko := fun w h1 h2 => operands_any D L ⟨c, a, b⟩ w h1 HM.out h2
        obtain ⟨P, hP⟩ : ∃ P, opsB D ⟨c, a, b⟩ = P := ⟨_, rfl⟩
        rw [hP] at ko
        have HP : Bx _ := ⟨hP⟩
        clear hP
        go_wp2_with fail
        refine (ko _ HG3.out.mem HG3.out.tab).mono ?_
        rintro e w4 ⟨rfl, hb⟩
        have HG4 : Bx _ := ⟨HG3.out.below hb⟩
        have HW4 : Bx _ := ⟨HW3.out.trans (hb.mono HW3.out.size)⟩
        clear hb p0 p1 p2 p3 p4 p5 p6 p7 p8 p9 p10 p11 p12 p13 i0 i1 i2 ko HG3 HW3
        obtain ⟨i0, i1, i2⟩ := HG4.out.i
        obtain ⟨m0, m1, m2⟩ := HG4.out.m
        have n0 := HG4.out.nc
        cases P
        · have HE : Bx (formF fi D l = some (j, 192)) := ⟨fm_stop HR.out HI.out.2 HF.out (by unfold errC; rw [if_neg (by rw [HO.out]; simp), if_pos HP.out]) (by decide)⟩
          have kf := form1_any 192 (by decide) S B k j _ hk (by omega) HG4.out.m.2.2 HG4.out.nc
          go_wp2_with fail
          refine kf.mono ?_
          rintro e w5 ⟨rfl, rfl⟩
          clear kf
          go_wp2
          go_ret
          exact ⟨by rw [fm_v HV.out HE.out]; rfl, by rw [HZ.out]; exact H0.out.below.trans (HW4.out.mono (Nat.le_of_lt H0.out.lt))⟩
        · have kj := fun w => jumps_any c w
          obtain ⟨J, hJ⟩ : ∃ J, jumpC c = J := ⟨_, rfl⟩
          obtain ⟨X, hX⟩ : ∃ X, decide (a ≤ (j : Int)) = X := ⟨_, rfl⟩
          obtain ⟨Y, hY⟩ : ∃ Y, decide ((l.length : Int) ≤ a) = Y := ⟨_, rfl⟩
          rw [hJ] at kj
          have HJ : Bx (jumpC c = J ∧ decide (a ≤ (j : Int)) = X ∧ decide ((l.length : Int) ≤ a) = Y) := ⟨hJ, hX, hY⟩
          clear hJ
          go_wp2_with fail
          refine (kj _).mono ?_
          rintro e w5 ⟨rfl, rfl⟩
          clear kj
          cases J
          · have HJN : Bx (¬(jumpC c = true ∧ (a ≤ (j : Int) ∨ (l.length : Int) ≤ a))) := ⟨by rw [HJ.out.1]; simp⟩
            clear hX hY
            have HE0 : Bx (errC fi D l.length j ⟨c, a, b⟩ = if c = lastC fi ∧ j + 1 < l.length then 193 else 0) := ⟨by unfold errC; rw [if_neg (by rw [HO.out]; simp), if_neg (by rw [HP.out]; simp), if_neg (HJN.out)]⟩
            have kl : ∀ d os, Calls Tryz.prog 80 #[machV (some ⟨pb, off, none⟩) l.length cap fi (k : Int)] (Go.Sort.grow (redrawn w4 d) os) _ := fun d os => last_any _ _ _ fi (k : Int) _
            obtain ⟨Z, hZ⟩ : ∃ Z, (((c : Int) == ((lastC fi : Nat) : Int)) : Bool) = Z := ⟨_, rfl⟩
            obtain ⟨Y2, hY2⟩ : ∃ Y2, decide (((j : Int) + 1) < (l.length : Int)) = Y2 := ⟨_, rfl⟩
            have HZY : Bx ((c == lastC fi) = Z ∧ decide (((j : Int) + 1) < (l.length : Int)) = Y2) := ⟨by rw [← hZ]; exact (beq_code _ _).symm, hY2⟩
            have q0 := cell_regrown i0
            have qm0 := cell_regrown m0
            have qm1 := cell_regrown m1
            have qm2 := cell_regrown m2
            have qn0 := cell_regrown n0
            generalize lastC fi = LC at kl hZ
            go_wp2_with fail
            clear i0 i1 i2 m0 m1 m2 n0
            cases Z
            · refine wp_region_quiet_below (by kernel_rfl) (by kernel_rfl) ?_
              repeat (go_big_quiet_step (first | (go_at_call 80; with_reducible exact Calls.regrown_of (kl _ _))))
              refine wpQuiet_nil ?_
              intro _ hw'
              obtain ⟨⟨dq, osq⟩, hw''⟩ := hw'
              subst hw''
              have HN : Bx (Below w0.heap.size w0 (Go.Sort.grow (redrawn w4 dq) osq) ∧ formL fi D l.length (l.drop (j + 1)) (j + 1) = R) := ⟨HW4.out.trans ((below_regrown w4 dq osq).mono HW4.out.size), fm_go HI.out.2 HF.out (by rw [HE0.out, if_neg]; rintro ⟨h, _⟩; have := HZY.out.1; simp [h] at this)⟩
              clear kl q0 qm0 qm1 qm2 qn0 HE0 HZY hZ hY2
              generalize Go.Sort.grow (redrawn w4 dq) osq = w6 at *
              go_wp2_with fail
              exact ⟨⟨j + 1, by omega, by rw [Int.natCast_succ], HN⟩, by simp only [intOf]; omega⟩
            · cases Y2
              all_goals
                refine wp_region_quiet_below (by kernel_rfl) (by kernel_rfl) ?_
                repeat (go_big_quiet_step (first | (go_at_call 80; with_reducible exact Calls.regrown_of (kl _ _))))
                refine wpQuiet_nil ?_
                intro _ hw'
                obtain ⟨⟨dq, osq⟩, hw''⟩ := hw'
                subst hw''
              · have HN : Bx (Below w0.heap.size w0 (Go.Sort.grow (redrawn w4 dq) osq) ∧ formL fi D l.length (l.drop (j + 1)) (j + 1) = R) := ⟨HW4.out.trans ((below_regrown w4 dq osq).mono HW4.out.size), fm_go HI.out.2 HF.out (by rw [HE0.out, if_neg]; rintro ⟨_, h⟩; have := HZY.out.2; simp at this; omega)⟩
                clear kl q0 qm0 qm1 qm2 qn0 HE0 HZY hZ hY2
                generalize Go.Sort.grow (redrawn w4 dq) osq = w6 at *
                go_wp2_with fail
                exact ⟨⟨j + 1, by omega, by rw [Int.natCast_succ], HN⟩, by simp only [intOf]; omega⟩
              · have HE : Bx (formF fi D l = some (j, 193)) := ⟨fm_stop HR.out HI.out.2 HF.out (by rw [HE0.out, if_pos]; have h1 := HZY.out.1; have h2 := HZY.out.2; simp at h1 h2; exact ⟨h1, by omega⟩) (by decide)⟩
                have HG6 : Bx _ := ⟨HG4.out.below (below_regrown w4 dq osq)⟩
                have HW6 : Bx (Below w0.heap.size w0 (Go.Sort.grow (redrawn w4 dq) osq)) := ⟨HW4.out.trans ((below_regrown w4 dq osq).mono HW4.out.size)⟩
                clear kl q0 qm0 qm1 qm2 qn0 HE0 HZY hZ hY2
                generalize Go.Sort.grow (redrawn w4 dq) osq = w6 at *
                have kf := form1_any 193 (by decide) S B k j _ hk (by omega) HG6.out.m.2.2 HG6.out.nc
                go_wp2_with fail
                refine kf.mono ?_
                rintro e w7 ⟨rfl, rfl⟩
                clear kf
                go_wp2
                go_ret
                exact ⟨by rw [fm_v HV.out HE.out]; rfl, by rw [HZ.out]; exact H0.out.below.trans (HW6.out.mono (Nat.le_of_lt H0.out.lt))⟩
          · cases X
            · cases Y
              · have HJN : Bx (¬(jumpC c = true ∧ (a ≤ (j : Int) ∨ (l.length : Int) ≤ a))) := ⟨by have h1 := HJ.out.2.1; have h2 := HJ.out.2.2; simp at h1 h2; rintro ⟨_, h | h⟩ <;> omega⟩
                have HE0 : Bx (errC fi D l.length j ⟨c, a, b⟩ = if c = lastC fi ∧ j + 1 < l.length then 193 else 0) := ⟨by unfold errC; rw [if_neg (by rw [HO.out]; simp), if_neg (by rw [HP.out]; simp), if_neg (HJN.out)]⟩
                have kl : ∀ d os, Calls Tryz.prog 80 #[machV (some ⟨pb, off, none⟩) l.length cap fi (k : Int)] (Go.Sort.grow (redrawn w4 d) os) _ := fun d os => last_any _ _ _ fi (k : Int) _
                obtain ⟨Z, hZ⟩ : ∃ Z, (((c : Int) == ((lastC fi : Nat) : Int)) : Bool) = Z := ⟨_, rfl⟩
                obtain ⟨Y2, hY2⟩ : ∃ Y2, decide (((j : Int) + 1) < (l.length : Int)) = Y2 := ⟨_, rfl⟩
                have HZY : Bx ((c == lastC fi) = Z ∧ decide (((j : Int) + 1) < (l.length : Int)) = Y2) := ⟨by rw [← hZ]; exact (beq_code _ _).symm, hY2⟩
                have q0 := cell_regrown i0
                have qm0 := cell_regrown m0
                have qm1 := cell_regrown m1
                have qm2 := cell_regrown m2
                have qn0 := cell_regrown n0
                generalize lastC fi = LC at kl hZ
                go_wp2_with fail
                clear i0 i1 i2 m0 m1 m2 n0
                cases Z
                · refine wp_region_quiet_below (by kernel_rfl) (by kernel_rfl) ?_
                  repeat (go_big_quiet_step (first | (go_at_call 80; with_reducible exact Calls.regrown_of (kl _ _))))
                  refine wpQuiet_nil ?_
                  intro _ hw'
                  obtain ⟨⟨dq, osq⟩, hw''⟩ := hw'
                  subst hw''
                  have HN : Bx (Below w0.heap.size w0 (Go.Sort.grow (redrawn w4 dq) osq) ∧ formL fi D l.length (l.drop (j + 1)) (j + 1) = R) := ⟨HW4.out.trans ((below_regrown w4 dq osq).mono HW4.out.size), fm_go HI.out.2 HF.out (by rw [HE0.out, if_neg]; rintro ⟨h, _⟩; have := HZY.out.1; simp [h] at this)⟩
                  clear kl q0 qm0 qm1 qm2 qn0 HE0 HZY hZ hY2
                  generalize Go.Sort.grow (redrawn w4 dq) osq = w6 at *
                  go_wp2_with fail
                  exact ⟨⟨j + 1, by omega, by rw [Int.natCast_succ], HN⟩, by simp only [intOf]; omega⟩
                · cases Y2
                  all_goals
                    refine wp_region_quiet_below (by kernel_rfl) (by kernel_rfl) ?_
                    repeat (go_big_quiet_step (first | (go_at_call 80; with_reducible exact Calls.regrown_of (kl _ _))))
                    refine wpQuiet_nil ?_
                    intro _ hw'
                    obtain ⟨⟨dq, osq⟩, hw''⟩ := hw'
                    subst hw''
                  · have HN : Bx (Below w0.heap.size w0 (Go.Sort.grow (redrawn w4 dq) osq) ∧ formL fi D l.length (l.drop (j + 1)) (j + 1) = R) := ⟨HW4.out.trans ((below_regrown w4 dq osq).mono HW4.out.size), fm_go HI.out.2 HF.out (by rw [HE0.out, if_neg]; rintro ⟨_, h⟩; have := HZY.out.2; simp at this; omega)⟩
                    clear kl q0 qm0 qm1 qm2 qn0 HE0 HZY hZ hY2
                    generalize Go.Sort.grow (redrawn w4 dq) osq = w6 at *
                    go_wp2_with fail
                    exact ⟨⟨j + 1, by omega, by rw [Int.natCast_succ], HN⟩, by simp only [intOf]; omega⟩
                  · have HE : Bx (formF fi D l = some (j, 193)) := ⟨fm_stop HR.out HI.out.2 HF.out (by rw [HE0.out, if_pos]; have h1 := HZY.out.1; have h2 := HZY.out.2; simp at h1 h2; exact ⟨h1, by omega⟩) (by decide)⟩
                    have HG6 : Bx _ := ⟨HG4.out.below (below_regrown w4 dq osq)⟩
                    have HW6 : Bx (Below w0.heap.size w0 (Go.Sort.grow (redrawn w4 dq) osq)) := ⟨HW4.out.trans ((below_regrown w4 dq osq).mono HW4.out.size)⟩
                    clear kl q0 qm0 qm1 qm2 qn0 HE0 HZY hZ hY2
                    generalize Go.Sort.grow (redrawn w4 dq) osq = w6 at *
                    have kf := form1_any 193 (by decide) S B k j _ hk (by omega) HG6.out.m.2.2 HG6.out.nc
                    go_wp2_with fail
                    refine kf.mono ?_
                    rintro e w7 ⟨rfl, rfl⟩
                    clear kf
                    go_wp2
                    go_ret
                    exact ⟨by rw [fm_v HV.out HE.out]; rfl, by rw [HZ.out]; exact H0.out.below.trans (HW6.out.mono (Nat.le_of_lt H0.out.lt))⟩
              · have HE : Bx (formF fi D l = some (j, 191)) := ⟨fm_stop HR.out HI.out.2 HF.out (by unfold errC; rw [if_neg (by rw [HO.out]; simp), if_neg (by rw [HP.out]; simp), if_pos (⟨HJ.out.1, Or.inr (of_decide_eq_true HJ.out.2.2)⟩)]) (by decide)⟩
                have kf := form1_any 191 (by decide) S B k j _ hk (by omega) HG4.out.m.2.2 HG4.out.nc
                go_wp2_with fail
                refine kf.mono ?_
                rintro e w7 ⟨rfl, rfl⟩
                clear kf
                go_wp2
                go_ret
                exact ⟨by rw [fm_v HV.out HE.out]; rfl, by rw [HZ.out]; exact H0.out.below.trans (HW4.out.mono (Nat.le_of_lt H0.out.lt))⟩
            · have HE : Bx (formF fi D l = some (j, 191)) := ⟨fm_stop HR.out HI.out.2 HF.out (by unfold errC; rw [if_neg (by rw [HO.out]; simp), if_neg (by rw [HP.out]; simp), if_pos (⟨HJ.out.1, Or.inl (of_decide_eq_true HJ.out.2.1)⟩)]) (by decide)⟩
              have kf := form1_any 191 (by decide) S B k j _ hk (by omega) HG4.out.m.2.2 HG4.out.nc
              go_wp2_with fail
              refine kf.mono ?_
              rintro e w7 ⟨rfl, rfl⟩
              clear kf
              go_wp2
              go_ret
              exact ⟨by rw [fm_v HV.out HE.out]; rfl, by rw [HZ.out]; exact H0.out.below.trans (HW4.out.mono (Nat.le_of_lt H0.out.lt))⟩
    · obtain rfl : j = l.length := by omega
      have HN : Bx (formL fi D l.length l 0 = none) := ⟨by
        have h := HI.out.2
        rw [List.drop_length] at h
        rw [HR.out, ← h]; rfl⟩
      obtain ⟨T, hm⟩ := H0.out.mach
      have hm' : wr.heap[S]? = some (.cells (machC A l.length cap fi k) T (0, 0)) := by rw [HI.out.1.block S H0.out.lt]; exact hm
      have m0 : wr.cell? ⟨S, 0, none⟩ = some (.slice A l.length cap) := cells_at hm' 0 _ rfl
      have m1 : wr.cell? ⟨S, 1, none⟩ = some (.bool fi) := cells_at hm' 1 _ rfl
      have m2 : wr.cell? ⟨S, 2, none⟩ = some (.int .i64 (k : Int)) := cells_at hm' 2 _ rfl
      have HW4 : Bx (Below w0.heap.size w0 wr) := ⟨HI.out.1⟩
      have HRW : Bx _ := ⟨H0.out.row.below (HI.out.1)⟩
      have kf := fun p w => vat_any p 193 w (by decide)
      have kl : ∀ d os, Calls Tryz.prog 80 #[machV A l.length cap fi (k : Int)] (Go.Sort.grow (redrawn wr d) os) _ := fun d os => last_any _ _ _ fi (k : Int) _
      clear hm hm' HI HR HB
      by_cases hz : l = []
      · have HE : Bx (formF fi D l = some (l.length, 193)) := ⟨by unfold formF; rw [HN.out, hz]; rfl⟩
        have hlz : ((l.length : Int) == 0) = true := by rw [hz]; rfl
        clear hz HRW
        have q0 := cell_regrown m0
        have q1 := cell_regrown m1
        have q2 := cell_regrown m2
        go_wp2_with fail
        clear m0 m1 m2
        refine wp_region_quiet_below (by kernel_rfl) (by kernel_rfl) ?_
        repeat (go_big_quiet_step (first | (go_at_call 80; with_reducible exact Calls.regrown_of (kl _ _))))
        refine wpQuiet_nil ?_
        intro _ hw'
        obtain ⟨⟨dq, osq⟩, hw''⟩ := hw'
        subst hw''
        have m0 := q0 dq osq
        have m1 := q1 dq osq
        have m2 := q2 dq osq
        have HW6 : Bx (Below w0.heap.size w0 (Go.Sort.grow (redrawn wr dq) osq)) := ⟨HW4.out.trans ((below_regrown wr dq osq).mono HW4.out.size)⟩
        clear kl q0 q1 q2
        generalize Go.Sort.grow (redrawn wr dq) osq = w6 at *
        go_wp2_with fail
        refine (kf _ _).mono ?_
        rintro e w7 ⟨rfl, rfl⟩
        clear kf
        go_wp2
        go_ret
        exact ⟨by rw [fm_v HV.out HE.out]; rfl, by rw [HZ.out]; exact H0.out.below.trans (HW6.out.mono (Nat.le_of_lt H0.out.lt))⟩
      · obtain ⟨n', hn'⟩ : ∃ n', l.length = n' + 1 := ⟨l.length - 1, by have : l.length ≠ 0 := fun h => hz (List.length_eq_zero_iff.1 h); omega⟩
        obtain ⟨pb, off, hA, hrow⟩ := HRW.out.row (by omega)
        have hx : l[n']? = some (l[n']'(by omega)) := List.getElem?_eq_getElem (by omega)
        have hlast : l.getLast? = some (l[n']'(by omega)) := by rw [List.getLast?_eq_getElem?, show l.length - 1 = n' by omega]; exact hx
        have r0 : wr.cell? ⟨pb, off + n' * 3, none⟩ = some (.int .u8 ((l[n']'(by omega)).c : Int)) := hrow n' _ hx 0 _ rfl
        have HFF : Bx (formF fi D l = if (l[n']'(by omega)).c = lastC fi then none else some (l.length, 193)) := ⟨by unfold formF; rw [HN.out, hlast]; simp⟩
        clear hrow hx hlast
        generalize (l[n']'(by omega)).c = c at *
        obtain ⟨Z, hZ⟩ : ∃ Z, (((c : Int) == ((lastC fi : Nat) : Int)) : Bool) = Z := ⟨_, rfl⟩
        have HZZ : Bx ((c == lastC fi) = Z) := ⟨by rw [← hZ]; exact (beq_code _ _).symm⟩
        have HNN : Bx (l.length = n' + 1) := ⟨hn'⟩
        generalize lastC fi = LC at kl hZ
        generalize hN : l.length = N at m0 kl hl hn' ⊢
        have HNZ : Bx (l.length = N) := ⟨hN⟩
        subst hA
        have hz0 : ((N : Int) == 0) = false := by simp; omega
        have hs1 : (N : Int) - 1 = (n' : Int) := by omega
        have hlt : n' < N := by omega
        clear HRW hn'
        have q0 := cell_regrown m0
        have q1 := cell_regrown m1
        have q2 := cell_regrown m2
        have qr := cell_regrown r0
        go_wp2_with fail
        clear m0 m1 m2 r0
        cases Z
        all_goals
          refine wp_region_quiet_below (by kernel_rfl) (by kernel_rfl) ?_
          repeat (go_big_quiet_step (first | (go_at_call 80; with_reducible exact Calls.regrown_of (kl _ _))))
          refine wpQuiet_nil ?_
          intro _ hw'
          obtain ⟨⟨dq, osq⟩, hw''⟩ := hw'
          subst hw''
          have m0 := q0 dq osq
          have m1 := q1 dq osq
          have m2 := q2 dq osq
          have HW6 : Bx (Below w0.heap.size w0 (Go.Sort.grow (redrawn wr dq) osq)) := ⟨HW4.out.trans ((below_regrown wr dq osq).mono HW4.out.size)⟩
          clear kl q0 q1 q2 qr
          generalize Go.Sort.grow (redrawn wr dq) osq = w6 at *
        · have HE : Bx (formF fi D l = some (l.length, 193)) := ⟨by rw [HFF.out, if_neg]; intro h; have := HZZ.out; simp [h] at this⟩
          go_wp2_with fail
          refine (kf _ _).mono ?_
          rintro e w7 ⟨rfl, rfl⟩
          clear kf
          go_wp2
          go_ret
          exact ⟨by rw [fm_v HV.out HE.out, HNZ.out]; rfl, by rw [HZ.out]; exact H0.out.below.trans (HW6.out.mono (Nat.le_of_lt H0.out.lt))⟩
        · have HE : Bx (formF fi D l = none) := ⟨by rw [HFF.out, if_pos]; have := HZZ.out; simpa using this⟩
          go_wp2
          go_ret
          exact ⟨by rw [HV.out, HE.out]; rfl, by rw [HZ.out]; exact H0.out.below.trans (HW6.out.mono (Nat.le_of_lt H0.out.lt))⟩
end Go.Proofs.YtbcajmkmadgbhaaGreatDoor
