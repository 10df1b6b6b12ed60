/- Verify: head. Conditions: the two tables of unicode/utf8 and errors.errorType hold what the program's text lays in them. -/
import Derived.Test.YtbcajmkmadgbhaaGreatDoorVrJ
set_option linter.unusedSimpArgs false
set_option linter.unusedVariables false
namespace Go.Proofs.YtbcajmkmadgbhaaGreatDoor
open Go.RowKit
open Go.Maps (Keyed)
theorem lawSt : Keyed Tryz.prog 9 := Maps.string_keyed Tryz.underlying9
theorem keySt {s : List UInt8} (h : s.length ≤ 9223372036854775807) : keyOf Tryz.prog 9 (strV s) = some (.string s) := by
  have := WideMaps.keyOf_string_mk (P := Tryz.prog) Tryz.underlying9 (s := ⟨s.toArray⟩) (by unfold maxLen; simpa [ByteArray.size] using h)
  simpa using this
theorem zeroBo (w : World) : (zeroValue 4).run Tryz.prog w = .ok (.bool false) w := by kernel_rfl
/-- the names that were seen, as a map -/
def seenF (seen : List (List UInt8)) : Lit → Option Value
  | .string s => if seen.contains s then some (.bool true) else none
  | _ => none
theorem seenF_nil : seenF [] = fun _ => none := by
  funext l
  unfold seenF
  split <;> rfl
theorem seenF_put (seen : List (List UInt8)) (s : List UInt8) : seenF (s :: seen) = upd (seenF seen) (.string s) (some (.bool true)) := by
  funext l
  by_cases h : l = .string s
  · subst h
    rw [upd_same]
    simp [seenF]
  · rw [upd_other _ _ h]
    unfold seenF
    split
    · rename_i x
      have : x ≠ s := fun e => h (by rw [e])
      simp [this]
    · rfl
theorem seenF_at (seen : List (List UInt8)) (s : List UInt8) : (seenF seen (.string s)).getD (.bool false) = .bool (seen.contains s) := by
  show (if seen.contains s then some (Value.bool true) else none).getD (.bool false) = _
  cases seen.contains s <;> rfl
/-- aliases: words, none twice -/
def aliF : List (List UInt8) → List (List UInt8) → Bool
  | _, [] => true
  | seen, s :: r => wordB s && !(seen.contains s) && aliF (s :: seen) r
theorem aliF_cons (seen : List (List UInt8)) (s : List UInt8) (r : List (List UInt8)) : aliF seen (s :: r) = (wordB s && !(seen.contains s) && aliF (s :: seen) r) := rfl
theorem aliF_iff : ∀ (l seen : List (List UInt8)), aliF seen l = true ↔ l.all wordB = true ∧ l.Nodup ∧ ∀ s ∈ l, seen.contains s = false
  | [], seen => by simp [aliF]
  | x :: r, seen => by
    unfold aliF
    rw [Bool.and_eq_true, Bool.and_eq_true, aliF_iff r (x :: seen)]
    simp only [List.all_cons, Bool.and_eq_true, List.nodup_cons, List.mem_cons, forall_eq_or_imp, List.contains_cons, Bool.or_eq_false_iff, Bool.not_eq_true', beq_eq_false_iff_ne]
    constructor
    · rintro ⟨⟨h1, h2⟩, h3, h4, h5⟩
      exact ⟨⟨h1, h3⟩, ⟨fun hm => (h5 x hm).1 rfl, h4⟩, h2, fun s hs => (h5 s hs).2⟩
    · rintro ⟨⟨h1, h3⟩, ⟨h4, h5⟩, h2, h6⟩
      exact ⟨⟨h1, h2⟩, h3, h5, fun s hs => ⟨fun e => h4 (by rw [← e]; exact hs), h6 s hs⟩⟩
/-- head, step by step -/
def headB (D : PrgD) : Bool :=
  (rightB D.from_ 64 && (D.into.isEmpty || rightB D.into 64)) && !(decide (D.every < 1) || decide (288230376151711744 < D.every) || decide (D.offset < 0) || decide (D.every ≤ D.offset)) &&
  !(decide (8 < D.groups.length) || !D.groups.all wordB || !D.names.all wordB || !D.texts.all blankB) && D.accs.all accB && aliF [] D.aliases && D.lists.all listB &&
  (decide (1 ≤ D.aliases.length) && decide (D.aliases.length ≤ 16) && decide (D.filter.length ≤ 65536) && decide (D.output.length ≤ 65536))
theorem headB_iff (D : PrgD) : headB D = true ↔ HeadP D := by
  unfold headB
  simp only [Bool.and_eq_true, Bool.or_eq_true, Bool.not_eq_true', Bool.or_eq_false_iff, decide_eq_true_eq, decide_eq_false_iff_not, Bool.not_eq_false', aliF_iff, List.isEmpty_iff]
  constructor
  · rintro ⟨⟨⟨⟨⟨⟨⟨h1, h2⟩, ⟨⟨⟨h3, h4⟩, h5⟩, h6⟩⟩, ⟨⟨⟨h7, h8⟩, h9⟩, h10⟩⟩, h11⟩, h12, h13, _⟩, h14⟩, ⟨⟨h15, h16⟩, h17⟩, h18⟩
    exact ⟨h1, h2, by omega, by omega, by omega, by omega, by omega, h8, h9, h10, h11, h12, h13, h14, h15, h16, h17, h18⟩
  · intro h
    exact ⟨⟨⟨⟨⟨⟨⟨h.from_, h.into⟩, ⟨⟨⟨by have := h.e1; omega, by have := h.e2; omega⟩, by have := h.o1; omega⟩, by have := h.o2; omega⟩⟩, ⟨⟨⟨by have := h.groups; omega, h.gwords⟩, h.names⟩, h.texts⟩⟩, h.accs⟩, h.aliases, h.twice, fun s _ => by simp⟩, h.lists⟩, ⟨⟨h.a1, h.a2⟩, h.fi⟩, h.ou⟩
/-- what head knows -/
structure HdB (w w0 : World) (S : Nat) (D : PrgD) (L : PLoc) : Prop where
  box : PBox w0 S D L
  below : Below S w w0
  eq : w.heap.size = S
  m0 : PrgM w D L
  g0 : GlobK w
theorem HdB.mem {w w0 : World} {S : Nat} {D : PrgD} {L : PLoc} (h : HdB w w0 S D L) : PrgM w0 D L := h.m0.below (by rw [h.eq]; exact h.below)
theorem HdB.glob {w w0 : World} {S : Nat} {D : PrgD} {L : PLoc} (h : HdB w w0 S D L) : GlobK w0 := h.g0.below (by rw [h.eq]; exact h.below)
theorem HdB.step {w w0 w' : World} {S : Nat} {D : PrgD} {L : PLoc} (h : HdB w w0 S D L) (hb : Below w0.heap.size w0 w') : HdB w w' S D L where
  box := h.box.below hb
  below := h.below.trans (hb.mono (Nat.le_of_lt h.box.lt))
  eq := h.eq
  m0 := h.m0
  g0 := h.g0
/-- a map of head's own has turned -/
theorem HdB.turn {w w0 w' : World} {S MB : Nat} {D : PrgD} {L : PLoc} (h : HdB w w0 S D L) (hS : S < MB) (hg : w0.grownBy w' (some MB)) : HdB w w' S D L := by
  have hb : Below (S + 1) w0 w' := ⟨hg.os, hg.tape, hg.output, hg.size, fun i hi => hg.block i (by have := h.box.lt; omega) (by intro e; injection e with e; omega)⟩
  exact ⟨h.box.belowAt (S + 1) (Nat.lt_succ_self _) hb, h.below.trans (hb.mono (Nat.le_succ _)), h.eq, h.m0, h.g0⟩
theorem HdB.alloc (w : World) (D : PrgD) (L : PLoc) (T : TypeId) (hM : PrgM w D L) (hG : GlobK w) : HdB w (w.alloc (.cells (prgC D L) T)) w.heap.size D L where
  box := PBox.alloc w D L T
  below := below1 _ _
  eq := rfl
  m0 := hM
  g0 := hG
set_option maxHeartbeats 8000000 in
set_option maxRecDepth 100000 in
theorem head_any (D : PrgD) (L : PLoc) (w : World) (hM : PrgM w D L) (hB : PrgB D) (hG : GlobK w) :
    Calls Tryz.prog 75 #[prgV D L] w fun e w' => e = .returned (.bool (headB D)) ∧ Below w.heap.size w w' := by
  have hmm := @run_makeMap Tryz.prog
  have H0 : Bx _ := ⟨HdB.alloc w D L 28 hM hG⟩
  have HB : Bx _ := ⟨hB⟩
  obtain ⟨V, hV⟩ : ∃ V, V = headB D := ⟨_, rfl⟩
  rw [← hV]
  have HV : Bx _ := ⟨hV⟩
  clear hV hM hG hB
  go_enter Tryz.func75, Tryz.ntmps75
  go_wp2_with fail
  generalize (w.alloc (.cells (prgC D L) 28)) = w0 at *
  generalize hS : w.heap.size = S at *
  have HZ : Bx (w.heap.size = S) := ⟨hS⟩
  clear hS
  cases hf : rightB D.from_ 64 with
  | false =>
    have kn := name_no D.from_ w0 HB.out.from_ H0.out.glob hf
    refine kn.mono ?_
    rintro e w1 ⟨rfl, hb⟩
    have H1 : Bx _ := ⟨H0.out.step hb⟩
    have HF1 : Bx _ := ⟨hf⟩
    clear hb kn hf
    have HE : Bx (V = false) := ⟨by rw [HV.out]; unfold headB; simp [HF1.out]⟩
    go_wp2
    go_ret
    exact ⟨by rw [HE.out]; rfl, by rw [HZ.out]; exact H1.out.below⟩
  | true =>
    have kn := name_yes D.from_ w0 HB.out.from_ H0.out.glob hf
    refine kn.mono ?_
    rintro e w1 ⟨rfl, hb⟩
    have H1 : Bx _ := ⟨H0.out.step hb⟩
    have HF1 : Bx _ := ⟨hf⟩
    clear hb kn hf
    have p1 := H1.out.box.cell 1 _ rfl
    have st3 : ∀ w2 : World, Bx (HdB w w2 S D L) → Bx (D.into.isEmpty = true ∨ rightB D.into 64 = true) → True := fun _ _ _ => trivial
    clear st3
    by_cases hi : D.into = []
    · have HF2 : Bx ((D.into.isEmpty || rightB D.into 64) = true) := ⟨by rw [hi]; rfl⟩
      have hi2 : D.into.isEmpty = true := by rw [hi]; rfl
      have hi3 : (D.into == []) = true := by rw [hi]; rfl
      clear hi
      go_upto_region 3 with (fail)
      obtain ⟨a1, ha1⟩ : ∃ a1, decide (D.every < 1) = a1 := ⟨_, rfl⟩
      obtain ⟨a2, ha2⟩ : ∃ a2, decide (288230376151711744 < D.every) = a2 := ⟨_, rfl⟩
      obtain ⟨a3, ha3⟩ : ∃ a3, decide (D.offset < 0) = a3 := ⟨_, rfl⟩
      obtain ⟨a4, ha4⟩ : ∃ a4, decide (D.every ≤ D.offset) = a4 := ⟨_, rfl⟩
      have HF3 : Bx ((decide (D.every < 1) || decide (288230376151711744 < D.every) || decide (D.offset < 0) || decide (D.every ≤ D.offset)) = (a1 || a2 || a3 || a4)) := ⟨by rw [ha1, ha2, ha3, ha4]⟩
      have p2 := H1.out.box.cell 2 _ rfl
      have p3 := H1.out.box.cell 3 _ rfl
      have p4 := H1.out.box.cell 4 _ rfl
      cases a1
      · cases a2
        · cases a3
          · cases a4
            · obtain ⟨b1, hb1⟩ : ∃ b1, decide (8 < D.groups.length) = b1 := ⟨_, rfl⟩
              have hb1' : decide ((8 : Int) < (D.groups.length : Int)) = b1 := by rw [← hb1, decide_eq_decide]; omega
              have HF4 : Bx (decide (8 < D.groups.length) = b1) := ⟨hb1⟩
              clear hb1
              cases b1
              · have kc := words_c L.ag D.groups L.cg w1 H1.out.mem.groups HB.out.groups H1.out.glob
                cases hgr : D.groups.all wordB with
                | false =>
                  rw [hgr] at kc
                  have HF5 : Bx _ := ⟨hgr⟩
                  clear hgr
                  go_wp2_with fail
                  refine kc.mono ?_
                  rintro e w3 ⟨rfl, hb⟩
                  have H3 : Bx _ := ⟨H1.out.step hb⟩
                  clear hb kc
                  have HE : Bx (V = false) := ⟨by rw [HV.out]; unfold headB; simp [HF5.out]⟩
                  go_wp2
                  go_ret
                  exact ⟨by rw [HE.out]; rfl, by rw [HZ.out]; exact H3.out.below⟩
                | true =>
                  rw [hgr] at kc
                  have HF5 : Bx _ := ⟨hgr⟩
                  clear hgr
                  go_wp2_with fail
                  refine kc.mono ?_
                  rintro e w3 ⟨rfl, hb⟩
                  have H3 : Bx _ := ⟨H1.out.step hb⟩
                  clear hb kc p2 p3 p4
                  have p7 := H3.out.box.cell 7 _ rfl
                  have kc := words_c L.an D.names L.cn w3 H3.out.mem.names HB.out.names H3.out.glob
                  cases hgr : D.names.all wordB with
                  | false =>
                    rw [hgr] at kc
                    have HF6 : Bx _ := ⟨hgr⟩
                    clear hgr
                    go_wp2_with fail
                    refine kc.mono ?_
                    rintro e w4 ⟨rfl, hb⟩
                    have H4 : Bx _ := ⟨H3.out.step hb⟩
                    clear hb kc p7
                    have HE : Bx (V = false) := ⟨by rw [HV.out]; unfold headB; simp [HF6.out]⟩
                    go_wp2
                    go_ret
                    exact ⟨by rw [HE.out]; rfl, by rw [HZ.out]; exact H4.out.below⟩
                  | true =>
                    rw [hgr] at kc
                    have HF6 : Bx _ := ⟨hgr⟩
                    clear hgr
                    go_wp2_with fail
                    refine kc.mono ?_
                    rintro e w4 ⟨rfl, hb⟩
                    have H4 : Bx _ := ⟨H3.out.step hb⟩
                    clear hb kc p7
                    have p8 := H4.out.box.cell 8 _ rfl
                    have kc := texts_c L.at_ D.texts L.ct w4 H4.out.mem.texts HB.out.texts H4.out.glob
                    cases hgr : D.texts.all blankB with
                    | false =>
                      rw [hgr] at kc
                      have HF7 : Bx _ := ⟨hgr⟩
                      clear hgr
                      go_wp2_with fail
                      refine kc.mono ?_
                      rintro e w5 ⟨rfl, hb⟩
                      have H5 : Bx _ := ⟨H4.out.step hb⟩
                      clear hb kc p8
                      have HE : Bx (V = false) := ⟨by rw [HV.out]; unfold headB; simp [HF7.out]⟩
                      go_wp2
                      go_ret
                      exact ⟨by rw [HE.out]; rfl, by rw [HZ.out]; exact H5.out.below⟩
                    | true =>
                      rw [hgr] at kc
                      have HF7 : Bx _ := ⟨hgr⟩
                      clear hgr
                      go_wp2_with fail
                      refine kc.mono ?_
                      rintro e w5 ⟨rfl, hb⟩
                      have H5 : Bx _ := ⟨H4.out.step hb⟩
                      clear hb kc p8
                      have HV1 : Bx (V = (D.accs.all accB && aliF [] D.aliases && D.lists.all listB && (decide (1 ≤ D.aliases.length) && decide (D.aliases.length ≤ 16) && decide (D.filter.length ≤ 65536) && decide (D.output.length ≤ 65536)))) := ⟨by
                        rw [HV.out]; unfold headB; rw [HF1.out, HF2.out, HF3.out, HF4.out, HF5.out, HF6.out, HF7.out]; rfl⟩
                      obtain ⟨Aac, hAac⟩ : ∃ x, L.ac = x := ⟨_, rfl⟩
                      have p5 : w5.cell? ⟨S, 5, none⟩ = some (.slice Aac D.accs.length L.cc) := by rw [← hAac]; exact H5.out.box.cell 5 _ rfl
                      have HAac : Bx (L.ac = Aac) := ⟨hAac⟩
                      clear HV HF1 HF2 HF3 HF4 HF5 HF6 HF7 hAac
                      go_wp2_with fail
                      go_loopw [67] (fun i wr => ∃ k : Nat, k ≤ D.accs.length ∧ i = .int .i64 (k : Int) ∧ Bx (HdB w wr S D L ∧ (D.accs.drop k).all accB = D.accs.all accB)) (fun i _ => D.accs.length - (intOf i).toNat)
                      case atStart => exact ⟨0, by omega, rfl, ⟨H5.out, by rw [List.drop_zero]⟩⟩
                      case round =>
                        obtain ⟨k, hk, rfl, HI⟩ := hrel
                        clear p5 ha1 ha2 ha3 ha4 hb1'
                        have hn := HI.out.1.mem.accs.n
                        by_cases hlt : k < D.accs.length
                        · have hrw := HI.out.1.mem.accs
                          rw [HAac.out] at hrw
                          obtain ⟨b, off, rfl, hrow⟩ := hrw.row (by omega)
                          have hx : D.accs[k]? = some D.accs[k] := List.getElem?_eq_getElem hlt
                          have r0 : wr.cell? ⟨b, off + k * 2, none⟩ = some (.int .u8 (D.accs[k].1 : Int)) := hrow k _ hx 0 _ rfl
                          have r1 : wr.cell? ⟨b, off + k * 2 + 1, none⟩ = some (strV D.accs[k].2) := hrow k _ hx 1 _ rfl
                          have HD : Bx (D.accs.drop k = D.accs[k] :: D.accs.drop (k + 1)) := ⟨List.drop_eq_getElem_cons hlt⟩
                          have HX : Bx _ := ⟨HB.out.accs _ (List.getElem_mem hlt)⟩
                          generalize D.accs[k] = a at *
                          obtain ⟨c, f⟩ := a
                          clear hrow hx hrw
                          obtain ⟨c1, hc1⟩ : ∃ c1, decide ((c : Int) < 1) = c1 := ⟨_, rfl⟩
                          obtain ⟨c2, hc2⟩ : ∃ c2, decide ((7 : Int) < (c : Int)) = c2 := ⟨_, rfl⟩
                          obtain ⟨c3, hc3⟩ : ∃ c3, (((c : Int) == 3) : Bool) = c3 := ⟨_, rfl⟩
                          have HACC : Bx (accB (c, f) = (!c1 && !c2 && !c3 && wordB f)) := ⟨by
                            unfold accB
                            rw [← hc1, ← hc2, ← hc3, show (((c : Int) == 3) : Bool) = (c == 3) from beq_code c 3]
                            have e1 : decide (1 ≤ c) = !decide ((c : Int) < 1) := by rw [Bool.eq_iff_iff]; simp; omega
                            have e2 : decide (c ≤ 7) = !decide ((7 : Int) < (c : Int)) := by rw [Bool.eq_iff_iff]; simp; omega
                            simp only [e1, e2, bne]⟩
                          have HI1 : Bx _ := ⟨HI.out.1.step (below1 wr (.cells #[.int .u8 (c : Int), strV f] 134))⟩
                          have kv := fun W h => vword_any f W HX.out.2 h
                          obtain ⟨W, hW⟩ : ∃ W, wordB f = W := ⟨_, rfl⟩
                          rw [hW] at kv
                          have HW : Bx _ := ⟨hW⟩
                          clear hW
                          cases c1
                          · cases c2
                            · cases c3
                              · go_wp2_with fail
                                refine (kv _ HI1.out.glob).mono ?_
                                rintro e w6 ⟨rfl, hb⟩
                                have HI2 : Bx _ := ⟨HI1.out.step hb⟩
                                clear hb kv r0 r1 hc1 hc2 hc3
                                cases W
                                · have HE : Bx (V = false) := ⟨by rw [HV1.out, ← HI.out.2, HD.out, List.all_cons, HACC.out, HW.out]; simp⟩
                                  go_wp2
                                  go_ret
                                  exact ⟨by rw [HE.out]; rfl, by rw [HZ.out]; exact HI2.out.below⟩
                                · have HN : Bx (HdB w w6 S D L ∧ (D.accs.drop (k + 1)).all accB = D.accs.all accB) := ⟨HI2.out, by rw [← HI.out.2, HD.out, List.all_cons, HACC.out, HW.out]; simp⟩
                                  go_wp2_with fail
                                  exact ⟨⟨k + 1, by omega, by rw [Int.natCast_succ], HN⟩, by simp only [intOf]; omega⟩
                              · have HE : Bx (V = false) := ⟨by rw [HV1.out, ← HI.out.2, HD.out, List.all_cons, HACC.out]; simp⟩
                                go_wp2
                                go_ret
                                exact ⟨by rw [HE.out]; rfl, by rw [HZ.out]; exact HI1.out.below⟩
                            · have HE : Bx (V = false) := ⟨by rw [HV1.out, ← HI.out.2, HD.out, List.all_cons, HACC.out]; simp⟩
                              go_wp2
                              go_ret
                              exact ⟨by rw [HE.out]; rfl, by rw [HZ.out]; exact HI1.out.below⟩
                          · have HE : Bx (V = false) := ⟨by rw [HV1.out, ← HI.out.2, HD.out, List.all_cons, HACC.out]; simp⟩
                            go_wp2
                            go_ret
                            exact ⟨by rw [HE.out]; rfl, by rw [HZ.out]; exact HI1.out.below⟩
                        · obtain rfl : k = D.accs.length := by omega
                          have HAL : Bx (D.accs.all accB = true) := ⟨by have h := HI.out.2; rw [List.drop_length] at h; exact h.symm⟩
                          have HM0 : Bx _ := ⟨And.intro (HI.out.1.step (below1 wr (.map #[] 0))) (And.intro (MapAt.made Tryz.prog wr 9) HI.out.1.box.lt)⟩
                          obtain ⟨Aal, hAal⟩ : ∃ x, L.al = x := ⟨_, rfl⟩
                          have p6 : (wr.alloc (.map #[] 0)).cell? ⟨S, 6, none⟩ = some (.slice Aal D.aliases.length L.cl) := by rw [← hAal]; exact HM0.out.1.box.cell 6 _ rfl
                          have HAal : Bx (L.al = Aal) := ⟨hAal⟩
                          have HV2 : Bx (V = (aliF [] D.aliases && D.lists.all listB && (decide (1 ≤ D.aliases.length) && decide (D.aliases.length ≤ 16) && decide (D.filter.length ≤ 65536) && decide (D.output.length ≤ 65536)))) := ⟨by rw [HV1.out, HAL.out]; rfl⟩
                          clear hAal HI HV1 HAL
                          go_wp2_with fail
                          generalize hw7 : wr.alloc (.map #[] 0) = w7 at *
                          generalize wr.heap.size = MB at *
                          clear hw7
                          go_loopw [95] (fun i wr => ∃ (k : Nat) (seen : List (List UInt8)), k ≤ D.aliases.length ∧ i = .int .i64 (k : Int) ∧ Bx (HdB w wr S D L ∧ MapAt Tryz.prog wr 9 MB k (seenF seen) ∧ S < MB ∧ aliF seen (D.aliases.drop k) = aliF [] D.aliases)) (fun i _ => D.aliases.length - (intOf i).toNat)
                          case atStart => exact ⟨0, [], by omega, rfl, ⟨HM0.out.1, HM0.out.2.1.same (fun l => by rw [seenF_nil]), HM0.out.2.2, by rw [List.drop_zero]⟩⟩
                          case round =>
                            obtain ⟨k, seen, hk, rfl, HI⟩ := hrel
                            clear p6
                            have hn := HI.out.1.mem.aliases.n
                            by_cases hlt : k < D.aliases.length
                            · have hrw := HI.out.1.mem.aliases
                              rw [HAal.out] at hrw
                              obtain ⟨b, off, rfl, hrow⟩ := row_one hrw (by omega)
                              have hx : D.aliases[k]? = some D.aliases[k] := List.getElem?_eq_getElem hlt
                              have r0 := hrow k _ hx
                              have HD : Bx (D.aliases.drop k = D.aliases[k] :: D.aliases.drop (k + 1)) := ⟨List.drop_eq_getElem_cons hlt⟩
                              have HX : Bx _ := ⟨HB.out.aliases _ (List.getElem_mem hlt)⟩
                              generalize D.aliases[k] = f at *
                              clear hrow hx hrw
                              have kv := fun W h => vword_any f W HX.out h
                              obtain ⟨W, hW⟩ : ∃ W, wordB f = W := ⟨_, rfl⟩
                              rw [hW] at kv
                              have HW : Bx _ := ⟨hW⟩
                              clear hW
                              go_wp2_with fail
                              refine (kv _ HI.out.1.glob).mono ?_
                              rintro e w8 ⟨rfl, hb⟩
                              have HI2 : Bx _ := ⟨And.intro (HI.out.1.step hb) (HI.out.2.1.below hb)⟩
                              clear hb kv r0
                              cases W
                              · have HE : Bx (V = false) := ⟨by rw [HV2.out, ← HI.out.2.2.2, HD.out]; unfold aliF; rw [HW.out]; simp⟩
                                go_wp2
                                go_ret
                                exact ⟨by rw [HE.out]; rfl, by rw [HZ.out]; exact HI2.out.1.below⟩
                              · have hl := (HI2.out.2.look lawSt Tryz.underlying225 (zeroBo w8) (keySt HX.out)).2
                                obtain ⟨Y, hY⟩ : ∃ Y, seen.contains f = Y := ⟨_, rfl⟩
                                have hl2 : (Instr.lookup 225 (.map (some MB)) (strV f) false).run Tryz.prog w8 = .ok (.bool Y) w8 := by
                                  rw [hl, ← hY]
                                  rw [seenF_at]
                                have HY : Bx _ := ⟨hY⟩
                                clear hl hY
                                cases Y
                                · obtain ⟨w9, hrun, hm9, ht9⟩ := HI2.out.2.store lawSt Tryz.underlying225 (by unfold maxLen; omega) (.bool true) (keySt HX.out)
                                  have HN : Bx (HdB w w9 S D L ∧ MapAt Tryz.prog w9 9 MB (k + 1) (seenF (f :: seen)) ∧ S < MB ∧ aliF (f :: seen) (D.aliases.drop (k + 1)) = aliF [] D.aliases) := ⟨by
                                    have hg := ht9.grown
                                    exact ⟨HI2.out.1.turn HI.out.2.2.1 hg, by rw [seenF_put]; exact hm9, HI.out.2.2.1, by rw [← HI.out.2.2.2, HD.out, aliF_cons, HW.out, HY.out]; rfl⟩⟩
                                  clear hm9 ht9
                                  go_wp2_with fail
                                  exact ⟨⟨k + 1, f :: seen, by omega, by rw [Int.natCast_succ], HN⟩, by simp only [intOf]; omega⟩
                                · have HE : Bx (V = false) := ⟨by rw [HV2.out, ← HI.out.2.2.2, HD.out]; unfold aliF; rw [HW.out, HY.out]; simp⟩
                                  go_wp2
                                  go_ret
                                  exact ⟨by rw [HE.out]; rfl, by rw [HZ.out]; exact HI2.out.1.below⟩
                            · obtain rfl : k = D.aliases.length := by omega
                              have HAL : Bx (aliF [] D.aliases = true) := ⟨by have h := HI.out.2.2.2; rw [List.drop_length] at h; exact h.symm⟩
                              have HV3 : Bx (V = (D.lists.all listB && (decide (1 ≤ D.aliases.length) && decide (D.aliases.length ≤ 16) && decide (D.filter.length ≤ 65536) && decide (D.output.length ≤ 65536)))) := ⟨by rw [HV2.out, HAL.out]; rfl⟩
                              have HW0 : Bx _ := ⟨HI.out.1⟩
                              obtain ⟨Ali, hAli⟩ : ∃ x, L.ai = x := ⟨_, rfl⟩
                              have p9 : wr.cell? ⟨S, 9, none⟩ = some (.slice Ali D.lists.length L.ci) := by rw [← hAli]; exact HW0.out.box.cell 9 _ rfl
                              have HAli : Bx (L.ai = Ali) := ⟨hAli⟩
                              clear hAli HI HV2 HAL
                              go_wp2_with fail
                              go_loopw [113] (fun i wr => ∃ k : Nat, k ≤ D.lists.length ∧ i = .int .i64 (k : Int) ∧ Bx (HdB w wr S D L ∧ (D.lists.drop k).all listB = D.lists.all listB)) (fun i _ => D.lists.length - (intOf i).toNat)
                              case atStart => exact ⟨0, by omega, rfl, ⟨HW0.out, by rw [List.drop_zero]⟩⟩
                              case round =>
                                obtain ⟨k, hk, rfl, HI⟩ := hrel
                                clear p9
                                have hn := HI.out.1.mem.nl
                                by_cases hlt : k < D.lists.length
                                · have hrw := HI.out.1.mem.lists (by omega)
                                  rw [HAli.out] at hrw
                                  obtain ⟨b, off, rfl, hrow⟩ := hrw
                                  have hx : D.lists[k]? = some D.lists[k] := List.getElem?_eq_getElem hlt
                                  have r0 := (hrow k _ hx).1
                                  have HTX : Bx _ := ⟨(hrow k _ hx).2⟩
                                  have HD : Bx (D.lists.drop k = D.lists[k] :: D.lists.drop (k + 1)) := ⟨List.drop_eq_getElem_cons hlt⟩
                                  have HX : Bx _ := ⟨HB.out.lists _ (List.getElem_mem hlt)⟩
                                  generalize D.lists[k] = f at *
                                  generalize L.la k = Af at *
                                  generalize L.lc k = cf at *
                                  clear hrow hx
                                  obtain ⟨c1, hc1⟩ : ∃ c1, decide ((f.length : Int) < 1) = c1 := ⟨_, rfl⟩
                                  obtain ⟨c2, hc2⟩ : ∃ c2, decide ((64 : Int) < (f.length : Int)) = c2 := ⟨_, rfl⟩
                                  have HLB : Bx (listB f = (!c1 && !c2 && f.all blankB)) := ⟨by
                                    unfold listB
                                    rw [← hc1, ← hc2]
                                    have e1 : decide (1 ≤ f.length) = !decide ((f.length : Int) < 1) := by rw [Bool.eq_iff_iff]; simp; omega
                                    have e2 : decide (f.length ≤ 64) = !decide ((64 : Int) < (f.length : Int)) := by rw [Bool.eq_iff_iff]; simp; omega
                                    rw [e1, e2]⟩
                                  cases c1
                                  · cases c2
                                    · have kc := texts_c Af f cf wr HTX.out HX.out HI.out.1.glob
                                      obtain ⟨W, hW⟩ : ∃ W, f.all blankB = W := ⟨_, rfl⟩
                                      rw [hW] at kc
                                      have HW : Bx _ := ⟨hW⟩
                                      clear hW
                                      go_wp2_with fail
                                      refine kc.mono ?_
                                      rintro e w6 ⟨rfl, hb⟩
                                      have HI2 : Bx _ := ⟨HI.out.1.step hb⟩
                                      clear hb kc r0 hc1 hc2
                                      cases W
                                      · have HE : Bx (V = false) := ⟨by rw [HV3.out, ← HI.out.2, HD.out, List.all_cons, HLB.out, HW.out]; simp⟩
                                        go_wp2
                                        go_ret
                                        exact ⟨by rw [HE.out]; rfl, by rw [HZ.out]; exact HI2.out.below⟩
                                      · have HN : Bx (HdB w w6 S D L ∧ (D.lists.drop (k + 1)).all listB = D.lists.all listB) := ⟨HI2.out, by rw [← HI.out.2, HD.out, List.all_cons, HLB.out, HW.out]; simp⟩
                                        go_wp2_with fail
                                        exact ⟨⟨k + 1, by omega, by rw [Int.natCast_succ], HN⟩, by simp only [intOf]; omega⟩
                                    · have HE : Bx (V = false) := ⟨by rw [HV3.out, ← HI.out.2, HD.out, List.all_cons, HLB.out]; simp⟩
                                      go_wp2
                                      go_ret
                                      exact ⟨by rw [HE.out]; rfl, by rw [HZ.out]; exact HI.out.1.below⟩
                                  · have HE : Bx (V = false) := ⟨by rw [HV3.out, ← HI.out.2, HD.out, List.all_cons, HLB.out]; simp⟩
                                    go_wp2
                                    go_ret
                                    exact ⟨by rw [HE.out]; rfl, by rw [HZ.out]; exact HI.out.1.below⟩
                                · obtain rfl : k = D.lists.length := by omega
                                  have HAL : Bx (D.lists.all listB = true) := ⟨by have h := HI.out.2; rw [List.drop_length] at h; exact h.symm⟩
                                  obtain ⟨d1, hd1⟩ : ∃ d1, decide ((1 : Int) ≤ (D.aliases.length : Int)) = d1 := ⟨_, rfl⟩
                                  obtain ⟨d2, hd2⟩ : ∃ d2, decide ((D.aliases.length : Int) ≤ 16) = d2 := ⟨_, rfl⟩
                                  obtain ⟨d3, hd3⟩ : ∃ d3, decide ((D.filter.length : Int) ≤ 65536) = d3 := ⟨_, rfl⟩
                                  obtain ⟨d4, hd4⟩ : ∃ d4, decide ((D.output.length : Int) ≤ 65536) = d4 := ⟨_, rfl⟩
                                  have HV4 : Bx (V = (d1 && d2 && d3 && d4)) := ⟨by
                                    rw [HV3.out, HAL.out, ← hd1, ← hd2, ← hd3, ← hd4]
                                    have e1 : decide (1 ≤ D.aliases.length) = decide ((1 : Int) ≤ (D.aliases.length : Int)) := by rw [decide_eq_decide]; omega
                                    have e2 : decide (D.aliases.length ≤ 16) = decide ((D.aliases.length : Int) ≤ 16) := by rw [decide_eq_decide]; omega
                                    have e3 : decide (D.filter.length ≤ 65536) = decide ((D.filter.length : Int) ≤ 65536) := by rw [decide_eq_decide]; omega
                                    have e4 : decide (D.output.length ≤ 65536) = decide ((D.output.length : Int) ≤ 65536) := by rw [decide_eq_decide]; omega
                                    rw [e1, e2, e3, e4]; rfl⟩
                                  have p6 := HI.out.1.box.cell 6 _ rfl
                                  have p12 := HI.out.1.box.cell 12 _ rfl
                                  have p13 := HI.out.1.box.cell 13 _ rfl
                                  have HBB : Bx (Below S w wr) := ⟨HI.out.1.below⟩
                                  clear HI
                                  cases d1
                                  · go_wp2
                                    go_ret
                                    exact ⟨by rw [HV4.out]; simp, by rw [HZ.out]; exact HBB.out⟩
                                  · cases d2
                                    · go_wp2
                                      go_ret
                                      exact ⟨by rw [HV4.out]; simp, by rw [HZ.out]; exact HBB.out⟩
                                    · cases d3
                                      · go_wp2
                                        go_ret
                                        exact ⟨by rw [HV4.out]; simp, by rw [HZ.out]; exact HBB.out⟩
                                      · go_wp2
                                        go_ret
                                        exact ⟨by rw [HV4.out]; simp, by rw [HZ.out]; exact HBB.out⟩
              · have HE : Bx (V = false) := ⟨by rw [HV.out]; unfold headB; simp [HF4.out]⟩
                go_wp2
                go_ret
                exact ⟨by rw [HE.out]; rfl, by rw [HZ.out]; exact H1.out.below⟩
            · have HE : Bx (V = false) := ⟨by rw [HV.out]; unfold headB; simp [HF3.out]⟩
              go_wp2
              go_ret
              exact ⟨by rw [HE.out]; rfl, by rw [HZ.out]; exact H1.out.below⟩
          · have HE : Bx (V = false) := ⟨by rw [HV.out]; unfold headB; simp [HF3.out]⟩
            go_wp2
            go_ret
            exact ⟨by rw [HE.out]; rfl, by rw [HZ.out]; exact H1.out.below⟩
        · have HE : Bx (V = false) := ⟨by rw [HV.out]; unfold headB; simp [HF3.out]⟩
          go_wp2
          go_ret
          exact ⟨by rw [HE.out]; rfl, by rw [HZ.out]; exact H1.out.below⟩
      · have HE : Bx (V = false) := ⟨by rw [HV.out]; unfold headB; simp [HF3.out]⟩
        go_wp2
        go_ret
        exact ⟨by rw [HE.out]; rfl, by rw [HZ.out]; exact H1.out.below⟩
    · have hi2 : D.into.isEmpty = false := by simpa using hi
      have hi3 : (D.into == []) = false := by simpa using hi
      have HI2 : Bx _ := ⟨hi2⟩
      clear hi
      cases hg : rightB D.into 64 with
      | false =>
        have kn := name_no D.into w1 HB.out.into H1.out.glob hg
        go_wp2_with fail
        refine kn.mono ?_
        rintro e w2 ⟨rfl, hb⟩
        have H2 : Bx _ := ⟨H1.out.step hb⟩
        have HF2 : Bx _ := ⟨hg⟩
        clear hb kn hg p1
        have HE : Bx (V = false) := ⟨by rw [HV.out]; unfold headB; simp [HF2.out, HI2.out]⟩
        go_wp2
        go_ret
        exact ⟨by rw [HE.out]; rfl, by rw [HZ.out]; exact H2.out.below⟩
      | true =>
        have kn := name_yes D.into w1 HB.out.into H1.out.glob hg
        go_wp2_with fail
        refine kn.mono ?_
        rintro e w2 ⟨rfl, hb⟩
        have H2 : Bx _ := ⟨H1.out.step hb⟩
        have HF2 : Bx ((D.into.isEmpty || rightB D.into 64) = true) := ⟨by rw [hg]; simp⟩
        clear hb kn hg p1
        go_upto_region 3 with (fail)
        obtain ⟨a1, ha1⟩ : ∃ a1, decide (D.every < 1) = a1 := ⟨_, rfl⟩
        obtain ⟨a2, ha2⟩ : ∃ a2, decide (288230376151711744 < D.every) = a2 := ⟨_, rfl⟩
        obtain ⟨a3, ha3⟩ : ∃ a3, decide (D.offset < 0) = a3 := ⟨_, rfl⟩
        obtain ⟨a4, ha4⟩ : ∃ a4, decide (D.every ≤ D.offset) = a4 := ⟨_, rfl⟩
        have HF3 : Bx ((decide (D.every < 1) || decide (288230376151711744 < D.every) || decide (D.offset < 0) || decide (D.every ≤ D.offset)) = (a1 || a2 || a3 || a4)) := ⟨by rw [ha1, ha2, ha3, ha4]⟩
        have p2 := H2.out.box.cell 2 _ rfl
        have p3 := H2.out.box.cell 3 _ rfl
        have p4 := H2.out.box.cell 4 _ rfl
        cases a1
        · cases a2
          · cases a3
            · cases a4
              · obtain ⟨b1, hb1⟩ : ∃ b1, decide (8 < D.groups.length) = b1 := ⟨_, rfl⟩
                have hb1' : decide ((8 : Int) < (D.groups.length : Int)) = b1 := by rw [← hb1, decide_eq_decide]; omega
                have HF4 : Bx (decide (8 < D.groups.length) = b1) := ⟨hb1⟩
                clear hb1
                cases b1
                · have kc := words_c L.ag D.groups L.cg w2 H2.out.mem.groups HB.out.groups H2.out.glob
                  cases hgr : D.groups.all wordB with
                  | false =>
                    rw [hgr] at kc
                    have HF5 : Bx _ := ⟨hgr⟩
                    clear hgr
                    go_wp2_with fail
                    refine kc.mono ?_
                    rintro e w3 ⟨rfl, hb⟩
                    have H3 : Bx _ := ⟨H2.out.step hb⟩
                    clear hb kc
                    have HE : Bx (V = false) := ⟨by rw [HV.out]; unfold headB; simp [HF5.out]⟩
                    go_wp2
                    go_ret
                    exact ⟨by rw [HE.out]; rfl, by rw [HZ.out]; exact H3.out.below⟩
                  | true =>
                    rw [hgr] at kc
                    have HF5 : Bx _ := ⟨hgr⟩
                    clear hgr
                    go_wp2_with fail
                    refine kc.mono ?_
                    rintro e w3 ⟨rfl, hb⟩
                    have H3 : Bx _ := ⟨H2.out.step hb⟩
                    clear hb kc p2 p3 p4
                    have p7 := H3.out.box.cell 7 _ rfl
                    have kc := words_c L.an D.names L.cn w3 H3.out.mem.names HB.out.names H3.out.glob
                    cases hgr : D.names.all wordB with
                    | false =>
                      rw [hgr] at kc
                      have HF6 : Bx _ := ⟨hgr⟩
                      clear hgr
                      go_wp2_with fail
                      refine kc.mono ?_
                      rintro e w4 ⟨rfl, hb⟩
                      have H4 : Bx _ := ⟨H3.out.step hb⟩
                      clear hb kc p7
                      have HE : Bx (V = false) := ⟨by rw [HV.out]; unfold headB; simp [HF6.out]⟩
                      go_wp2
                      go_ret
                      exact ⟨by rw [HE.out]; rfl, by rw [HZ.out]; exact H4.out.below⟩
                    | true =>
                      rw [hgr] at kc
                      have HF6 : Bx _ := ⟨hgr⟩
                      clear hgr
                      go_wp2_with fail
                      refine kc.mono ?_
                      rintro e w4 ⟨rfl, hb⟩
                      have H4 : Bx _ := ⟨H3.out.step hb⟩
                      clear hb kc p7
                      have p8 := H4.out.box.cell 8 _ rfl
                      have kc := texts_c L.at_ D.texts L.ct w4 H4.out.mem.texts HB.out.texts H4.out.glob
                      cases hgr : D.texts.all blankB with
                      | false =>
                        rw [hgr] at kc
                        have HF7 : Bx _ := ⟨hgr⟩
                        clear hgr
                        go_wp2_with fail
                        refine kc.mono ?_
                        rintro e w5 ⟨rfl, hb⟩
                        have H5 : Bx _ := ⟨H4.out.step hb⟩
                        clear hb kc p8
                        have HE : Bx (V = false) := ⟨by rw [HV.out]; unfold headB; simp [HF7.out]⟩
                        go_wp2
                        go_ret
                        exact ⟨by rw [HE.out]; rfl, by rw [HZ.out]; exact H5.out.below⟩
                      | true =>
                        rw [hgr] at kc
                        have HF7 : Bx _ := ⟨hgr⟩
                        clear hgr
                        go_wp2_with fail
                        refine kc.mono ?_
                        rintro e w5 ⟨rfl, hb⟩
                        have H5 : Bx _ := ⟨H4.out.step hb⟩
                        clear hb kc p8
                        have HV1 : Bx (V = (D.accs.all accB && aliF [] D.aliases && D.lists.all listB && (decide (1 ≤ D.aliases.length) && decide (D.aliases.length ≤ 16) && decide (D.filter.length ≤ 65536) && decide (D.output.length ≤ 65536)))) := ⟨by
                          rw [HV.out]; unfold headB; rw [HF1.out, HF2.out, HF3.out, HF4.out, HF5.out, HF6.out, HF7.out]; rfl⟩
                        obtain ⟨Aac, hAac⟩ : ∃ x, L.ac = x := ⟨_, rfl⟩
                        have p5 : w5.cell? ⟨S, 5, none⟩ = some (.slice Aac D.accs.length L.cc) := by rw [← hAac]; exact H5.out.box.cell 5 _ rfl
                        have HAac : Bx (L.ac = Aac) := ⟨hAac⟩
                        clear HV HF1 HF2 HF3 HF4 HF5 HF6 HF7 hAac
                        go_wp2_with fail
                        go_loopw [67] (fun i wr => ∃ k : Nat, k ≤ D.accs.length ∧ i = .int .i64 (k : Int) ∧ Bx (HdB w wr S D L ∧ (D.accs.drop k).all accB = D.accs.all accB)) (fun i _ => D.accs.length - (intOf i).toNat)
                        case atStart => exact ⟨0, by omega, rfl, ⟨H5.out, by rw [List.drop_zero]⟩⟩
                        case round =>
                          obtain ⟨k, hk, rfl, HI⟩ := hrel
                          clear p5 ha1 ha2 ha3 ha4 hb1'
                          have hn := HI.out.1.mem.accs.n
                          by_cases hlt : k < D.accs.length
                          · have hrw := HI.out.1.mem.accs
                            rw [HAac.out] at hrw
                            obtain ⟨b, off, rfl, hrow⟩ := hrw.row (by omega)
                            have hx : D.accs[k]? = some D.accs[k] := List.getElem?_eq_getElem hlt
                            have r0 : wr.cell? ⟨b, off + k * 2, none⟩ = some (.int .u8 (D.accs[k].1 : Int)) := hrow k _ hx 0 _ rfl
                            have r1 : wr.cell? ⟨b, off + k * 2 + 1, none⟩ = some (strV D.accs[k].2) := hrow k _ hx 1 _ rfl
                            have HD : Bx (D.accs.drop k = D.accs[k] :: D.accs.drop (k + 1)) := ⟨List.drop_eq_getElem_cons hlt⟩
                            have HX : Bx _ := ⟨HB.out.accs _ (List.getElem_mem hlt)⟩
                            generalize D.accs[k] = a at *
                            obtain ⟨c, f⟩ := a
                            clear hrow hx hrw
                            obtain ⟨c1, hc1⟩ : ∃ c1, decide ((c : Int) < 1) = c1 := ⟨_, rfl⟩
                            obtain ⟨c2, hc2⟩ : ∃ c2, decide ((7 : Int) < (c : Int)) = c2 := ⟨_, rfl⟩
                            obtain ⟨c3, hc3⟩ : ∃ c3, (((c : Int) == 3) : Bool) = c3 := ⟨_, rfl⟩
                            have HACC : Bx (accB (c, f) = (!c1 && !c2 && !c3 && wordB f)) := ⟨by
                              unfold accB
                              rw [← hc1, ← hc2, ← hc3, show (((c : Int) == 3) : Bool) = (c == 3) from beq_code c 3]
                              have e1 : decide (1 ≤ c) = !decide ((c : Int) < 1) := by rw [Bool.eq_iff_iff]; simp; omega
                              have e2 : decide (c ≤ 7) = !decide ((7 : Int) < (c : Int)) := by rw [Bool.eq_iff_iff]; simp; omega
                              simp only [e1, e2, bne]⟩
                            have HI1 : Bx _ := ⟨HI.out.1.step (below1 wr (.cells #[.int .u8 (c : Int), strV f] 134))⟩
                            have kv := fun W h => vword_any f W HX.out.2 h
                            obtain ⟨W, hW⟩ : ∃ W, wordB f = W := ⟨_, rfl⟩
                            rw [hW] at kv
                            have HW : Bx _ := ⟨hW⟩
                            clear hW
                            cases c1
                            · cases c2
                              · cases c3
                                · go_wp2_with fail
                                  refine (kv _ HI1.out.glob).mono ?_
                                  rintro e w6 ⟨rfl, hb⟩
                                  have HI2 : Bx _ := ⟨HI1.out.step hb⟩
                                  clear hb kv r0 r1 hc1 hc2 hc3
                                  cases W
                                  · have HE : Bx (V = false) := ⟨by rw [HV1.out, ← HI.out.2, HD.out, List.all_cons, HACC.out, HW.out]; simp⟩
                                    go_wp2
                                    go_ret
                                    exact ⟨by rw [HE.out]; rfl, by rw [HZ.out]; exact HI2.out.below⟩
                                  · have HN : Bx (HdB w w6 S D L ∧ (D.accs.drop (k + 1)).all accB = D.accs.all accB) := ⟨HI2.out, by rw [← HI.out.2, HD.out, List.all_cons, HACC.out, HW.out]; simp⟩
                                    go_wp2_with fail
                                    exact ⟨⟨k + 1, by omega, by rw [Int.natCast_succ], HN⟩, by simp only [intOf]; omega⟩
                                · have HE : Bx (V = false) := ⟨by rw [HV1.out, ← HI.out.2, HD.out, List.all_cons, HACC.out]; simp⟩
                                  go_wp2
                                  go_ret
                                  exact ⟨by rw [HE.out]; rfl, by rw [HZ.out]; exact HI1.out.below⟩
                              · have HE : Bx (V = false) := ⟨by rw [HV1.out, ← HI.out.2, HD.out, List.all_cons, HACC.out]; simp⟩
                                go_wp2
                                go_ret
                                exact ⟨by rw [HE.out]; rfl, by rw [HZ.out]; exact HI1.out.below⟩
                            · have HE : Bx (V = false) := ⟨by rw [HV1.out, ← HI.out.2, HD.out, List.all_cons, HACC.out]; simp⟩
                              go_wp2
                              go_ret
                              exact ⟨by rw [HE.out]; rfl, by rw [HZ.out]; exact HI1.out.below⟩
                          · obtain rfl : k = D.accs.length := by omega
                            have HAL : Bx (D.accs.all accB = true) := ⟨by have h := HI.out.2; rw [List.drop_length] at h; exact h.symm⟩
                            have HM0 : Bx _ := ⟨And.intro (HI.out.1.step (below1 wr (.map #[] 0))) (And.intro (MapAt.made Tryz.prog wr 9) HI.out.1.box.lt)⟩
                            obtain ⟨Aal, hAal⟩ : ∃ x, L.al = x := ⟨_, rfl⟩
                            have p6 : (wr.alloc (.map #[] 0)).cell? ⟨S, 6, none⟩ = some (.slice Aal D.aliases.length L.cl) := by rw [← hAal]; exact HM0.out.1.box.cell 6 _ rfl
                            have HAal : Bx (L.al = Aal) := ⟨hAal⟩
                            have HV2 : Bx (V = (aliF [] D.aliases && D.lists.all listB && (decide (1 ≤ D.aliases.length) && decide (D.aliases.length ≤ 16) && decide (D.filter.length ≤ 65536) && decide (D.output.length ≤ 65536)))) := ⟨by rw [HV1.out, HAL.out]; rfl⟩
                            clear hAal HI HV1 HAL
                            go_wp2_with fail
                            generalize hw7 : wr.alloc (.map #[] 0) = w7 at *
                            generalize wr.heap.size = MB at *
                            clear hw7
                            go_loopw [95] (fun i wr => ∃ (k : Nat) (seen : List (List UInt8)), k ≤ D.aliases.length ∧ i = .int .i64 (k : Int) ∧ Bx (HdB w wr S D L ∧ MapAt Tryz.prog wr 9 MB k (seenF seen) ∧ S < MB ∧ aliF seen (D.aliases.drop k) = aliF [] D.aliases)) (fun i _ => D.aliases.length - (intOf i).toNat)
                            case atStart => exact ⟨0, [], by omega, rfl, ⟨HM0.out.1, HM0.out.2.1.same (fun l => by rw [seenF_nil]), HM0.out.2.2, by rw [List.drop_zero]⟩⟩
                            case round =>
                              obtain ⟨k, seen, hk, rfl, HI⟩ := hrel
                              clear p6
                              have hn := HI.out.1.mem.aliases.n
                              by_cases hlt : k < D.aliases.length
                              · have hrw := HI.out.1.mem.aliases
                                rw [HAal.out] at hrw
                                obtain ⟨b, off, rfl, hrow⟩ := row_one hrw (by omega)
                                have hx : D.aliases[k]? = some D.aliases[k] := List.getElem?_eq_getElem hlt
                                have r0 := hrow k _ hx
                                have HD : Bx (D.aliases.drop k = D.aliases[k] :: D.aliases.drop (k + 1)) := ⟨List.drop_eq_getElem_cons hlt⟩
                                have HX : Bx _ := ⟨HB.out.aliases _ (List.getElem_mem hlt)⟩
                                generalize D.aliases[k] = f at *
                                clear hrow hx hrw
                                have kv := fun W h => vword_any f W HX.out h
                                obtain ⟨W, hW⟩ : ∃ W, wordB f = W := ⟨_, rfl⟩
                                rw [hW] at kv
                                have HW : Bx _ := ⟨hW⟩
                                clear hW
                                go_wp2_with fail
                                refine (kv _ HI.out.1.glob).mono ?_
                                rintro e w8 ⟨rfl, hb⟩
                                have HI2 : Bx _ := ⟨And.intro (HI.out.1.step hb) (HI.out.2.1.below hb)⟩
                                clear hb kv r0
                                cases W
                                · have HE : Bx (V = false) := ⟨by rw [HV2.out, ← HI.out.2.2.2, HD.out]; unfold aliF; rw [HW.out]; simp⟩
                                  go_wp2
                                  go_ret
                                  exact ⟨by rw [HE.out]; rfl, by rw [HZ.out]; exact HI2.out.1.below⟩
                                · have hl := (HI2.out.2.look lawSt Tryz.underlying225 (zeroBo w8) (keySt HX.out)).2
                                  obtain ⟨Y, hY⟩ : ∃ Y, seen.contains f = Y := ⟨_, rfl⟩
                                  have hl2 : (Instr.lookup 225 (.map (some MB)) (strV f) false).run Tryz.prog w8 = .ok (.bool Y) w8 := by
                                    rw [hl, ← hY]
                                    rw [seenF_at]
                                  have HY : Bx _ := ⟨hY⟩
                                  clear hl hY
                                  cases Y
                                  · obtain ⟨w9, hrun, hm9, ht9⟩ := HI2.out.2.store lawSt Tryz.underlying225 (by unfold maxLen; omega) (.bool true) (keySt HX.out)
                                    have HN : Bx (HdB w w9 S D L ∧ MapAt Tryz.prog w9 9 MB (k + 1) (seenF (f :: seen)) ∧ S < MB ∧ aliF (f :: seen) (D.aliases.drop (k + 1)) = aliF [] D.aliases) := ⟨by
                                      have hg := ht9.grown
                                      exact ⟨HI2.out.1.turn HI.out.2.2.1 hg, by rw [seenF_put]; exact hm9, HI.out.2.2.1, by rw [← HI.out.2.2.2, HD.out, aliF_cons, HW.out, HY.out]; rfl⟩⟩
                                    clear hm9 ht9
                                    go_wp2_with fail
                                    exact ⟨⟨k + 1, f :: seen, by omega, by rw [Int.natCast_succ], HN⟩, by simp only [intOf]; omega⟩
                                  · have HE : Bx (V = false) := ⟨by rw [HV2.out, ← HI.out.2.2.2, HD.out]; unfold aliF; rw [HW.out, HY.out]; simp⟩
                                    go_wp2
                                    go_ret
                                    exact ⟨by rw [HE.out]; rfl, by rw [HZ.out]; exact HI2.out.1.below⟩
                              · obtain rfl : k = D.aliases.length := by omega
                                have HAL : Bx (aliF [] D.aliases = true) := ⟨by have h := HI.out.2.2.2; rw [List.drop_length] at h; exact h.symm⟩
                                have HV3 : Bx (V = (D.lists.all listB && (decide (1 ≤ D.aliases.length) && decide (D.aliases.length ≤ 16) && decide (D.filter.length ≤ 65536) && decide (D.output.length ≤ 65536)))) := ⟨by rw [HV2.out, HAL.out]; rfl⟩
                                have HW0 : Bx _ := ⟨HI.out.1⟩
                                obtain ⟨Ali, hAli⟩ : ∃ x, L.ai = x := ⟨_, rfl⟩
                                have p9 : wr.cell? ⟨S, 9, none⟩ = some (.slice Ali D.lists.length L.ci) := by rw [← hAli]; exact HW0.out.box.cell 9 _ rfl
                                have HAli : Bx (L.ai = Ali) := ⟨hAli⟩
                                clear hAli HI HV2 HAL
                                go_wp2_with fail
                                go_loopw [113] (fun i wr => ∃ k : Nat, k ≤ D.lists.length ∧ i = .int .i64 (k : Int) ∧ Bx (HdB w wr S D L ∧ (D.lists.drop k).all listB = D.lists.all listB)) (fun i _ => D.lists.length - (intOf i).toNat)
                                case atStart => exact ⟨0, by omega, rfl, ⟨HW0.out, by rw [List.drop_zero]⟩⟩
                                case round =>
                                  obtain ⟨k, hk, rfl, HI⟩ := hrel
                                  clear p9
                                  have hn := HI.out.1.mem.nl
                                  by_cases hlt : k < D.lists.length
                                  · have hrw := HI.out.1.mem.lists (by omega)
                                    rw [HAli.out] at hrw
                                    obtain ⟨b, off, rfl, hrow⟩ := hrw
                                    have hx : D.lists[k]? = some D.lists[k] := List.getElem?_eq_getElem hlt
                                    have r0 := (hrow k _ hx).1
                                    have HTX : Bx _ := ⟨(hrow k _ hx).2⟩
                                    have HD : Bx (D.lists.drop k = D.lists[k] :: D.lists.drop (k + 1)) := ⟨List.drop_eq_getElem_cons hlt⟩
                                    have HX : Bx _ := ⟨HB.out.lists _ (List.getElem_mem hlt)⟩
                                    generalize D.lists[k] = f at *
                                    generalize L.la k = Af at *
                                    generalize L.lc k = cf at *
                                    clear hrow hx
                                    obtain ⟨c1, hc1⟩ : ∃ c1, decide ((f.length : Int) < 1) = c1 := ⟨_, rfl⟩
                                    obtain ⟨c2, hc2⟩ : ∃ c2, decide ((64 : Int) < (f.length : Int)) = c2 := ⟨_, rfl⟩
                                    have HLB : Bx (listB f = (!c1 && !c2 && f.all blankB)) := ⟨by
                                      unfold listB
                                      rw [← hc1, ← hc2]
                                      have e1 : decide (1 ≤ f.length) = !decide ((f.length : Int) < 1) := by rw [Bool.eq_iff_iff]; simp; omega
                                      have e2 : decide (f.length ≤ 64) = !decide ((64 : Int) < (f.length : Int)) := by rw [Bool.eq_iff_iff]; simp; omega
                                      rw [e1, e2]⟩
                                    cases c1
                                    · cases c2
                                      · have kc := texts_c Af f cf wr HTX.out HX.out HI.out.1.glob
                                        obtain ⟨W, hW⟩ : ∃ W, f.all blankB = W := ⟨_, rfl⟩
                                        rw [hW] at kc
                                        have HW : Bx _ := ⟨hW⟩
                                        clear hW
                                        go_wp2_with fail
                                        refine kc.mono ?_
                                        rintro e w6 ⟨rfl, hb⟩
                                        have HI2 : Bx _ := ⟨HI.out.1.step hb⟩
                                        clear hb kc r0 hc1 hc2
                                        cases W
                                        · have HE : Bx (V = false) := ⟨by rw [HV3.out, ← HI.out.2, HD.out, List.all_cons, HLB.out, HW.out]; simp⟩
                                          go_wp2
                                          go_ret
                                          exact ⟨by rw [HE.out]; rfl, by rw [HZ.out]; exact HI2.out.below⟩
                                        · have HN : Bx (HdB w w6 S D L ∧ (D.lists.drop (k + 1)).all listB = D.lists.all listB) := ⟨HI2.out, by rw [← HI.out.2, HD.out, List.all_cons, HLB.out, HW.out]; simp⟩
                                          go_wp2_with fail
                                          exact ⟨⟨k + 1, by omega, by rw [Int.natCast_succ], HN⟩, by simp only [intOf]; omega⟩
                                      · have HE : Bx (V = false) := ⟨by rw [HV3.out, ← HI.out.2, HD.out, List.all_cons, HLB.out]; simp⟩
                                        go_wp2
                                        go_ret
                                        exact ⟨by rw [HE.out]; rfl, by rw [HZ.out]; exact HI.out.1.below⟩
                                    · have HE : Bx (V = false) := ⟨by rw [HV3.out, ← HI.out.2, HD.out, List.all_cons, HLB.out]; simp⟩
                                      go_wp2
                                      go_ret
                                      exact ⟨by rw [HE.out]; rfl, by rw [HZ.out]; exact HI.out.1.below⟩
                                  · obtain rfl : k = D.lists.length := by omega
                                    have HAL : Bx (D.lists.all listB = true) := ⟨by have h := HI.out.2; rw [List.drop_length] at h; exact h.symm⟩
                                    obtain ⟨d1, hd1⟩ : ∃ d1, decide ((1 : Int) ≤ (D.aliases.length : Int)) = d1 := ⟨_, rfl⟩
                                    obtain ⟨d2, hd2⟩ : ∃ d2, decide ((D.aliases.length : Int) ≤ 16) = d2 := ⟨_, rfl⟩
                                    obtain ⟨d3, hd3⟩ : ∃ d3, decide ((D.filter.length : Int) ≤ 65536) = d3 := ⟨_, rfl⟩
                                    obtain ⟨d4, hd4⟩ : ∃ d4, decide ((D.output.length : Int) ≤ 65536) = d4 := ⟨_, rfl⟩
                                    have HV4 : Bx (V = (d1 && d2 && d3 && d4)) := ⟨by
                                      rw [HV3.out, HAL.out, ← hd1, ← hd2, ← hd3, ← hd4]
                                      have e1 : decide (1 ≤ D.aliases.length) = decide ((1 : Int) ≤ (D.aliases.length : Int)) := by rw [decide_eq_decide]; omega
                                      have e2 : decide (D.aliases.length ≤ 16) = decide ((D.aliases.length : Int) ≤ 16) := by rw [decide_eq_decide]; omega
                                      have e3 : decide (D.filter.length ≤ 65536) = decide ((D.filter.length : Int) ≤ 65536) := by rw [decide_eq_decide]; omega
                                      have e4 : decide (D.output.length ≤ 65536) = decide ((D.output.length : Int) ≤ 65536) := by rw [decide_eq_decide]; omega
                                      rw [e1, e2, e3, e4]; rfl⟩
                                    have p6 := HI.out.1.box.cell 6 _ rfl
                                    have p12 := HI.out.1.box.cell 12 _ rfl
                                    have p13 := HI.out.1.box.cell 13 _ rfl
                                    have HBB : Bx (Below S w wr) := ⟨HI.out.1.below⟩
                                    clear HI
                                    cases d1
                                    · go_wp2
                                      go_ret
                                      exact ⟨by rw [HV4.out]; simp, by rw [HZ.out]; exact HBB.out⟩
                                    · cases d2
                                      · go_wp2
                                        go_ret
                                        exact ⟨by rw [HV4.out]; simp, by rw [HZ.out]; exact HBB.out⟩
                                      · cases d3
                                        · go_wp2
                                          go_ret
                                          exact ⟨by rw [HV4.out]; simp, by rw [HZ.out]; exact HBB.out⟩
                                        · go_wp2
                                          go_ret
                                          exact ⟨by rw [HV4.out]; simp, by rw [HZ.out]; exact HBB.out⟩
                · have HE : Bx (V = false) := ⟨by rw [HV.out]; unfold headB; simp [HF4.out]⟩
                  go_wp2
                  go_ret
                  exact ⟨by rw [HE.out]; rfl, by rw [HZ.out]; exact H2.out.below⟩
              · have HE : Bx (V = false) := ⟨by rw [HV.out]; unfold headB; simp [HF3.out]⟩
                go_wp2
                go_ret
                exact ⟨by rw [HE.out]; rfl, by rw [HZ.out]; exact H2.out.below⟩
            · have HE : Bx (V = false) := ⟨by rw [HV.out]; unfold headB; simp [HF3.out]⟩
              go_wp2
              go_ret
              exact ⟨by rw [HE.out]; rfl, by rw [HZ.out]; exact H2.out.below⟩
          · have HE : Bx (V = false) := ⟨by rw [HV.out]; unfold headB; simp [HF3.out]⟩
            go_wp2
            go_ret
            exact ⟨by rw [HE.out]; rfl, by rw [HZ.out]; exact H2.out.below⟩
        · have HE : Bx (V = false) := ⟨by rw [HV.out]; unfold headB; simp [HF3.out]⟩
          go_wp2
          go_ret
          exact ⟨by rw [HE.out]; rfl, by rw [HZ.out]; exact H2.out.below⟩
end Go.Proofs.YtbcajmkmadgbhaaGreatDoor
