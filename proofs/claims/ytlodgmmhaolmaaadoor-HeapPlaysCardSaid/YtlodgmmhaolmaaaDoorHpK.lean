/- The heap: Build. -/
import Derived.Test.YtlodgmmhaolmaaaDoorHpJ
set_option linter.unusedSimpArgs false
set_option linter.unusedVariables false
namespace Go.Proofs.YtlodgmmhaolmaaaDoor
open Go.RowKit
/-- an error of a number, of one of several things -/
abbrev inV (i : Int) (c : Int) : Value := .iface 91 (.agg #[.int .i64 i, .iface 23 (.int .i64 c)])
theorem fin_any (i c : Int) (w : World) : Calls Tryd.prog 42 #[.int .i64 i, .iface 23 (.int .i64 c)] w fun e w' => e = .returned (inV i c) ∧ w = w' := by
  go_enter Tryd.func42, Tryd.ntmps42
  go_wp2
  go_ret
  exact ⟨rfl, rfl⟩
/-- a heap whose map of places is being filled -/
structure BldAt (w wr : World) (hb mb : Nat) (M : List Ent) (mo : Bool) : Prop where
  blk : wr.heap[hb]? = some (.cells #[.slice none 0 0, .map (some mb), aheadV mo, .int .i64 (0 : Nat)] 71 (0, 0))
  map : MapAt Tryd.prog wr 9 mb M.length (placesF M)
  below : Below w.heap.size w wr
  hb : w.heap.size ≤ hb
  mb : w.heap.size ≤ mb
theorem BldAt.ne {w wr : World} {hb mb : Nat} {M : List Ent} {mo : Bool} (h : BldAt w wr hb mb M mo) : mb ≠ hb := by
  obtain ⟨es, clock, hm⟩ := h.map.isMap
  rintro rfl; have := h.blk; rw [hm] at this; simp at this
theorem BldAt.step {w wr w1 : World} {hb mb : Nat} {M : List Ent} {mo : Bool} (h : BldAt w wr hb mb M mo) (hb1 : Below wr.heap.size wr w1) : BldAt w w1 hb mb M mo :=
  ⟨by rw [hb1.block hb (block_lt h.blk)]; exact h.blk, h.map.below hb1, h.below.trans (hb1.mono h.below.size), h.hb, h.mb⟩
theorem BldAt.put {w wr w1 : World} {hb mb : Nat} {M M' : List Ent} {mo : Bool} (h : BldAt w wr hb mb M mo) (hg : wr.grownBy w1 (some mb)) (hm : MapAt Tryd.prog w1 9 mb M'.length (placesF M')) : BldAt w w1 hb mb M' mo :=
  ⟨by rw [hg.block hb (block_lt h.blk) (by simpa using h.ne.symm)]; exact h.blk, hm, h.below.trans (Turned.below (S := [mb]) (Turned.ofGrown hg (fun x e => by injection e with e; subst e; simp)) (fun x hx => by simp at hx; rw [hx]; exact h.mb) h.below.size), h.hb, h.mb⟩
theorem take_snoc {L : List Ent} {k : Nat} (h : k < L.length) : L.take (k + 1) = L.take k ++ [atE L k] := by
  rw [List.take_succ_eq_append_getElem h]
  congr 2
  unfold atE; rw [List.getD_eq_getElem?_getD, List.getElem?_eq_getElem h]; rfl
theorem bldF_ge (mo : Bool) : ∀ (c : Nat) (s : List Ent × Nat), s.2 ≤ (bldF mo c s).2 := by
  intro c
  induction c with
  | zero => intro s; exact Nat.le_refl _
  | succ c ih => intro s; rw [show bldF mo (c + 1) s = bldF mo c ((downH mo s.1 c).1, s.2 + (downH mo s.1 c).2) from rfl]; exact Nat.le_trans (Nat.le_add_right s.2 (downH mo s.1 c).2) (ih ((downH mo s.1 c).1, s.2 + (downH mo s.1 c).2))
theorem bldF_succ (mo : Bool) (c : Nat) (s : List Ent × Nat) : bldF mo (c + 1) s = bldF mo c ((downH mo s.1 c).1, s.2 + (downH mo s.1 c).2) := rfl
/-- what Build's second loop is about -/
structure BldIn (w wr : World) (hb mb : Nat) (v : Value) (mo : Bool) (n : Nat) (Z : List Ent × Nat) (c : Nat) (L : List Ent) (mv : Nat) : Prop where
  h : HeapAt wr hb mb v L mo mv
  z : bldF mo c (L, mv) = Z
  n : L.length = n
  b : Below w.heap.size w wr
  f : ∀ x ∈ foot hb mb v, w.heap.size ≤ x
theorem look_fn {w : World} {mb n : Nat} {M : List Ent} {s : List UInt8} (h : MapAt Tryd.prog w 9 mb n (placesF M)) (hs : s.length ≤ 9223372036854775807) :
    (Instr.lookup 68 (.map (some mb)) (strV s) true).run Tryd.prog w = .ok (.tuple #[.int .i64 ((findE M s).getD 0 : Nat), .bool (findE M s).isSome]) w := by
  have := (h.look lawS Tryd.underlying68 (zeroI w) (keyS hs)).1
  rw [this]
  have e : placesF M (.string s) = (findE M s).map (fun i : Nat => Value.int .i64 (i : Int)) := rfl
  rw [e]
  cases findE M s <;> rfl
set_option maxHeartbeats 8000000 in
set_option maxRecDepth 100000 in
/-- Build, of entries of which the first k have k names -/
theorem build_loop (mo : Bool) (A : Option Addr) (n cap : Nat) (L : List Ent) (w : World) (hr : EntRow w A n L) (ht : Texts L) (hn : n ≤ 1152921504606846976) (hb24 : n * 24 ≤ 225179981352000) (hnone : A = none → n = 0 ∧ cap = 0) :
    Calls Tryd.prog 20 #[.bool mo, .slice A n cap] w fun e w' =>
      (∃ k, k < n ∧ NoTwice (L.take k) ∧ findE (L.take k) (atE L k).2 ≠ none ∧ e = .returned (.tuple #[.pointer none, inV k 5]) ∧ Below w.heap.size w w') ∨
      (NoTwice L ∧ ∃ hb mb v, e = .returned (.tuple #[.pointer (some ⟨hb, 0, none⟩), .nilIface]) ∧ HeapAt w' hb mb v (bldH mo L).1 mo (bldH mo L).2 ∧ Below w.heap.size w w' ∧ ∀ x ∈ foot hb mb v, w.heap.size ≤ x) := by
  have kn := new_heap mo w
  have HR : Bx _ := ⟨And.intro hr (And.intro ht (And.intro hn (And.intro hb24 hnone)))⟩
  clear hr ht hb24 hnone
  go_enter Tryd.func20, Tryd.ntmps20
  go_wp2_with fail
  refine kn.mono ?_
  rintro e w1 ⟨hb, mb, rfl, h1, hbl, hb1, hb2⟩
  have HB1 : Bx (BldAt w w1 hb mb [] mo) := ⟨⟨h1.blk, h1.map, hbl, hb1, hb2⟩⟩
  clear kn h1 hbl hb1 hb2
  go_wp2_with fail
  go_loopw [16] (fun i wr => ∃ k : Nat, i = .int .i64 k ∧ k ≤ n ∧ Bx (BldAt w wr hb mb (L.take k) mo ∧ NoTwice (L.take k))) (fun i _ => n - (intOf i).toNat)
  case atStart => exact ⟨0, rfl, by omega, ⟨HB1.out, List.Pairwise.nil⟩⟩
  case round =>
    obtain ⟨k, rfl, hk, HI⟩ := hrel
    clear HB1
    by_cases hlt : k < n
    · have hL := HR.out.1.len
      obtain ⟨b, off, rfl, hrow⟩ := (HR.out.1.below HI.out.1.below).row (by omega)
      obtain ⟨p0, p1⟩ := hrow k hlt
      have hsk : (atE L k).2.length ≤ 9223372036854775807 := HR.out.2.1.at k
      have HE : Bx (atE L k = ((atE L k).1, (atE L k).2)) := ⟨rfl⟩
      obtain ⟨r, hr⟩ : ∃ x, (atE L k).1 = x := ⟨_, rfl⟩
      obtain ⟨s, hs⟩ : ∃ x, (atE L k).2 = x := ⟨_, rfl⟩
      have HRR : Bx ((atE L k).1 = r ∧ (atE L k).2 = s ∧ L.length = n ∧ s.length ≤ 9223372036854775807) := ⟨hr, hs, hL, by rw [← hs]; exact hsk⟩
      rw [hr] at p0
      rw [hs] at p1
      clear hr hs hL hsk hrow HE
      go_upto_region 5 with (fail)
      change Code.wp _ _ _ _ (wr.alloc (.cells #[.int .i64 r, strV s] 27))
      have hbx := box_cells wr r s 27
      have HJ : Bx (BldAt w (wr.alloc (.cells #[.int .i64 r, strV s] 27)) hb mb (L.take k) mo ∧ wr.heap.size < (wr.alloc (.cells #[.int .i64 r, strV s] 27)).heap.size) := ⟨HI.out.1.step (below1 _ _), by simp⟩
      have HT : Bx (NoTwice (L.take k)) := ⟨HI.out.2⟩
      have hbB : hb ≠ wr.heap.size := by have := block_lt HI.out.1.blk; omega
      have hmB : mb ≠ wr.heap.size := by have := HI.out.1.map.lt; omega
      clear HI p0 p1
      generalize wr.alloc (.cells #[.int .i64 r, strV s] 27) = w2 at *
      obtain ⟨B, hB⟩ : ∃ B, wr.heap.size = B := ⟨_, rfl⟩
      rw [hB] at hbx HJ hbB hmB
      simp only [hB]
      clear hB
      obtain ⟨x0, x1⟩ := hbx
      have c1 : w2.cell? ⟨hb, 1, none⟩ = some (.map (some mb)) := cells_at HJ.out.1.blk 1 _ rfl
      have hl := look_fn (w := w2.drew) (HJ.out.1.map.block rfl) HRR.out.2.2.2
      cases hf : findE (L.take k) s with
      | some j =>
        rw [hf] at hl
        simp only [Option.getD_some, Option.isSome_some] at hl
        have HF : Bx _ := ⟨hf⟩
        clear hf
        go_region
        clear hl
        go_wp2_with fail
        refine (fnew_any 5 _ (by decide)).mono ?_
        rintro e w3 ⟨rfl, rfl⟩
        go_wp2_with fail
        refine (fin_any _ 5 _).mono ?_
        rintro e w3 ⟨rfl, rfl⟩
        go_wp2
        go_ret2
        exact Or.inl ⟨k, hlt, HT.out, (by rw [HRR.out.2.1, HF.out]; simp), rfl, HJ.out.1.below.drew⟩
      | none =>
        rw [hf] at hl
        replace hl : (Instr.lookup 68 (.map (some mb)) (strV s) true).run Tryd.prog w2.drew = .ok (.tuple #[.int .i64 0, .bool false]) w2.drew := hl
        have HF : Bx _ := ⟨hf⟩
        clear hf
        go_region
        clear hl
        go_upto_region 8 with (fail)
        change Code.wp _ _ _ _ w2.drew
        have HJ2 : Bx (BldAt w w2.drew hb mb (L.take k) mo ∧ B < w2.drew.heap.size) := ⟨HJ.out.1.step (Below.refl _ _).drew, HJ.out.2⟩
        replace x1 : w2.drew.cell? ⟨B, 1, none⟩ = some (strV s) := x1
        replace c1 : w2.drew.cell? ⟨hb, 1, none⟩ = some (.map (some mb)) := c1
        clear HJ x0
        generalize w2.drew = w3 at *
        obtain ⟨w4, hrun, hm4, ht4⟩ := (show MapAt Tryd.prog w3.drew 9 mb (L.take k).length (placesF (L.take k)) from HJ2.out.1.map.block rfl).store lawS Tryd.underlying68 (by have := HRR.out.2.2.1; rw [List.length_take]; unfold maxLen; omega) (.int .i64 (k : Int)) (keyS HRR.out.2.2.2)
        have hg4 : w3.grownBy w4 (some mb) := ⟨ht4.grown.os, ht4.grown.tape, ht4.grown.output, ht4.grown.size, ht4.grown.block⟩
        have hat : atE L k = (r, s) := by rw [← HRR.out.1, ← HRR.out.2.1]
        have htk : L.take (k + 1) = L.take k ++ [(r, s)] := by rw [take_snoc (by rw [HRR.out.2.2.1]; exact hlt), hat]
        have hlk : (L.take k).length = k := by rw [List.length_take, HRR.out.2.2.1]; omega
        have hm5 : MapAt Tryd.prog w4 9 mb (L.take (k + 1)).length (placesF (L.take (k + 1))) := by
          have := hm4.same (g := placesF (L.take k ++ [(r, s)])) (fun l => by rw [← places_snoc (e := (r, s)) HF.out l, hlk])
          rw [htk, List.length_append]; exact this
        have HK : Bx (BldAt w w4 hb mb (L.take (k + 1)) mo ∧ NoTwice (L.take (k + 1))) := ⟨HJ2.out.1.put hg4 hm5, by rw [htk]; exact noTwice_snoc HT.out HF.out⟩
        clear hm4 ht4 hg4 hat htk hlk hm5
        go_region
        clear hrun x1 c1
        go_wp2
        exact ⟨⟨k + 1, by rw [Int.natCast_succ], by omega, HK⟩, by simp only [intOf]; omega⟩
    · obtain rfl : k = n := by omega
      have hL := HR.out.1.len
      have htk : L.take k = L := List.take_of_length_le (by omega)
      have hbl := HI.out.1
      have hno := HI.out.2
      rw [htk] at hbl hno
      have kc := eclone_any A k cap L wr (HR.out.1.below hbl.below) HR.out.2.2.2.1 HR.out.2.2.2.2
      have HBL : Bx _ := ⟨And.intro hbl (And.intro hno hL)⟩
      clear hbl hno hL htk HI hlt hk
      go_wp2_with fail
      refine kc.mono ?_
      rintro e w2 ⟨v, rfl, hrv, hbv, hge⟩
      obtain ⟨A', cap', hv, _⟩ := hrv.form
      rw [HBL.out.2.2] at hv
      subst hv
      have hb2 := HBL.out.1.step hbv
      have c0 : w2.cell? ⟨hb, 0, none⟩ = some (.slice none 0 0) := cells_at hb2.blk 0 _ rfl
      have f0 := cells_free hb2.blk 0
      have hgh : ∀ g, rowB (.slice A' k cap') = some g → g ≠ hb ∧ g ≠ mb := fun g e => by
        have h1 := hge g e
        have h2 := block_lt HBL.out.1.blk
        have h3 := HBL.out.1.map.lt
        omega
      have h3 : HeapAt (w2.setCell ⟨hb, 0, none⟩ (.slice A' k cap')) hb mb (.slice A' k cap') L mo 0 := by
        refine ⟨?_, ?_, hb2.map.block (Below.heap_setCell _ _ _ _ hb2.ne), HBL.out.2.1, HR.out.2.1⟩
        · have := cells_set hb2.blk 0 (.slice A' k cap')
          simpa using this
        · exact hrv.kept (Turned.set hb 0 (.slice A' k cap')) (fun x hx e => by simp at hx; exact (hgh x e).1 hx)
      have hbw : Below w.heap.size w (w2.setCell ⟨hb, 0, none⟩ (.slice A' k cap')) := hb2.below.setCell hb2.hb _
      have hfo : ∀ x ∈ foot hb mb (.slice A' k cap'), w.heap.size ≤ x := by
        intro x hx
        simp only [foot, List.mem_cons, Option.mem_toList] at hx
        rcases hx with rfl | rfl | hx
        · exact hb2.hb
        · exact hb2.mb
        · exact Nat.le_trans HBL.out.1.below.size (hge x hx)
      have HB3 : Bx (BldIn w (w2.setCell ⟨hb, 0, none⟩ (.slice A' k cap')) hb mb (.slice A' k cap') mo k (bldH mo L) (k / 2) L 0) := ⟨h3, by unfold bldH; rw [HBL.out.2.2], HBL.out.2.2, hbw, hfo⟩
      clear kc hrv hbv hge hb2 hgh h3 hbw hfo
      obtain ⟨q, hq⟩ : ∃ q : Nat, k / 2 = q := ⟨_, rfl⟩
      have hqi : ((k : Int) / 2) = (q : Int) := by omega
      have hqk : q ≤ k := by omega
      rw [hq] at HB3
      clear hq
      go_wp2_with fail
      change Code.wp _ _ _ _ (w2.setCell ⟨hb, 0, none⟩ (.slice A' k cap'))
      generalize w2.setCell ⟨hb, 0, none⟩ (.slice A' k cap') = w3 at *
      go_loopw [11] (fun i w' => ∃ (c : Nat) (L' : List Ent) (mv' : Nat), i = .int .i64 ((c : Int) - 1) ∧ c ≤ q ∧ Bx (BldIn w w' hb mb (.slice A' k cap') mo k (bldH mo L) c L' mv')) (fun i _ => ((intOf i) + 1).toNat)
      case atStart => exact ⟨q, L, 0, rfl, Nat.le_refl _, HB3⟩
      case round =>
        obtain ⟨c, L', mv', rfl, hc, HX⟩ := hrel
        cases c with
        | zero =>
          have HZ : Bx ((L', mv') = bldH mo L) := ⟨HX.out.z⟩
          go_wp2
          go_ret2
          refine Or.inr ⟨HBL.out.2.1, hb, mb, .slice A' k cap', rfl, ?_, HX.out.b, HX.out.f⟩
          rw [← HZ.out]; exact HX.out.h
        | succ c =>
          have hz := HX.out.z
          rw [bldF_succ] at hz
          have hm : mv' + (downH mo L' c).2 ≤ 1152921504606846976 := by
            have h1 := bldF_ge mo c ((downH mo L' c).1, mv' + (downH mo L' c).2)
            rw [hz] at h1
            have h2 := bldH_moves mo L
            have h3 := HBL.out.2.2
            simp only at h1
            omega
          have kd := down_any hb mb _ L' mo mv' c _ HX.out.h (by rw [HX.out.n]; omega) (by rw [HX.out.n]; exact hn) hm
          have HZ : Bx _ := ⟨hz⟩
          have e : (((c + 1 : Nat) : Int) - 1) = (c : Int) := by omega
          rw [e]
          clear hz hm
          go_wp2_with fail
          refine kd.mono ?_
          rintro e w5 ⟨rfl, h5, t5⟩
          have HY : Bx (BldIn w w5 hb mb (.slice A' k cap') mo k (bldH mo L) c (downH mo L' c).1 (mv' + (downH mo L' c).2)) := ⟨h5, HZ.out, by rw [downH_len]; exact HX.out.n, HX.out.b.trans (t5.below HX.out.f HX.out.b.size), HX.out.f⟩
          clear kd h5 t5 HX
          go_wp2_with fail
          exact ⟨⟨c, _, _, rfl, by omega, HY⟩, by simp only [intOf]; omega⟩
end Go.Proofs.YtlodgmmhaolmaaaDoor
