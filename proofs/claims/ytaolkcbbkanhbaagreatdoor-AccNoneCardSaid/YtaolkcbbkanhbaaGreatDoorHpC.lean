/- Walks of the heap: who is ahead, New, change. -/
import Derived.Test.YtaolkcbbkanhbaaGreatDoorHpR
import Derived.BigQuiet
import Derived.BigRegion
import Derived.Deep.QuietTactic
import Derived.StillTailTactics
import Derived.Laws.EntriesVeiled
import Derived.Outline
import Derived.OneCell
set_option linter.unusedSimpArgs false
set_option linter.unusedVariables false
namespace Go.Proofs.YtaolkcbbkanhbaaGreatDoor
open Go.RowKit
/-- an entry as a value -/
abbrev entV (e : Ent) : Value := .agg #[.int .i64 e.1, strV e.2]
set_option maxHeartbeats 2000000 in
theorem least_any (r1 r2 : Int) (s1 s2 : List UInt8) (w : World) : Calls Tryz.prog 39 #[.agg #[.int .i64 r1, strV s1], .agg #[.int .i64 r2, strV s2]] w fun e w' => e = .returned (.bool (ltE (r1, s1) (r2, s2))) ∧ Below w.heap.size w w' := by
  unfold ltE
  simp only
  obtain ⟨X, hX⟩ : ∃ X, decide (r1 < r2) = X := ⟨_, rfl⟩
  obtain ⟨Y, hY⟩ : ∃ Y, decide (r1 = r2) = Y := ⟨_, rfl⟩
  obtain ⟨Z, hZ⟩ : ∃ Z, Op.bytesLess s1 s2 = Z := ⟨_, rfl⟩
  have hY' : (r1 == r2) = Y := by rw [← hY]; by_cases h : r1 = r2 <;> simp [h]
  rw [hX, hY, hZ]
  clear hY
  cases X <;> cases Y <;> cases Z <;>
  · go_enter Tryz.func39, Tryz.ntmps39
    go_wp2
    go_ret
    exact ⟨rfl, below2 _ _ _⟩
set_option maxHeartbeats 2000000 in
theorem most_any (r1 r2 : Int) (s1 s2 : List UInt8) (w : World) : Calls Tryz.prog 40 #[.agg #[.int .i64 r1, strV s1], .agg #[.int .i64 r2, strV s2]] w fun e w' => e = .returned (.bool (ltE (r2, s2) (r1, s1))) ∧ Below w.heap.size w w' := by
  go_enter Tryz.func40, Tryz.ntmps40
  go_wp2_with fail
  refine (least_any r2 r1 s2 s1 _).mono ?_
  rintro e w' ⟨rfl, hb⟩
  have hb' := (below2 w _ _).trans (hb.mono (by simp only [heap_push, Array.size_push]; omega))
  clear hb
  go_wp2
  go_ret
  exact ⟨rfl, hb'⟩
theorem fresh_heap (mo : Bool) (w : World) : HeapAt ((w.alloc (.map #[] 0)).alloc (.cells #[.slice none 0 0, .map (some w.heap.size), aheadV mo, .int .i64 0] 115)) (w.heap.size + 1) w.heap.size (.slice none 0 0) [] mo 0 where
  blk := by
    have := heap_alloc_new (w.alloc (.map #[] 0)) (.cells #[.slice none 0 0, .map (some w.heap.size), aheadV mo, .int .i64 0] 115)
    rw [show (w.alloc (.map #[] 0)).heap.size = w.heap.size + 1 by simp] at this
    exact this
  row := Or.inr ⟨rfl, none, rfl⟩
  map := ((MapAt.made Tryz.prog w 9).alloc _).same (fun l => by cases l <;> rfl)
  two := List.Pairwise.nil
  txt := fun e he => by cases he
set_option maxHeartbeats 2000000 in
/-- New -/
theorem new_heap (mo : Bool) (w : World) : Calls Tryz.prog 24 #[.bool mo] w fun e w' => ∃ hb mb, e = .returned (.pointer (some ⟨hb, 0, none⟩)) ∧ HeapAt w' hb mb (.slice none 0 0) [] mo 0 ∧ Below w.heap.size w w' ∧ w.heap.size ≤ hb ∧ w.heap.size ≤ mb := by
  have hmm := @run_makeMap Tryz.prog
  cases mo
  · go_enter Tryz.func24, Tryz.ntmps24
    go_wp2
    go_ret
    exact ⟨w.heap.size + 1, w.heap.size, rfl, fresh_heap false w, below2 _ _ _, Nat.le_succ _, Nat.le_refl _⟩
  · go_enter Tryz.func24, Tryz.ntmps24
    go_wp2
    go_ret
    exact ⟨w.heap.size + 1, w.heap.size, rfl, fresh_heap true w, below2 _ _ _, Nat.le_succ _, Nat.le_refl _⟩
/-- four stores: two entries change places -/
theorem row_sw {w : World} {g cap n : Nat} {L : List Ent} (h : w.ownsRow 0 117 2 (.slice (some ⟨g, 0, none⟩) n cap) n (entC L)) (i k : Nat) :
    ((((w.setCell ⟨g, i * 2, none⟩ (.int .i64 (atE L k).1)).setCell ⟨g, i * 2 + 1, none⟩ (strV (atE L k).2)).setCell ⟨g, k * 2, none⟩ (.int .i64 (atE L i).1)).setCell ⟨g, k * 2 + 1, none⟩ (strV (atE L i).2)).ownsRow 0 117 2 (.slice (some ⟨g, 0, none⟩) n cap) n (entC (swE L i k)) ∧
    Turned [g] w ((((w.setCell ⟨g, i * 2, none⟩ (.int .i64 (atE L k).1)).setCell ⟨g, i * 2 + 1, none⟩ (strV (atE L k).2)).setCell ⟨g, k * 2, none⟩ (.int .i64 (atE L i).1)).setCell ⟨g, k * 2 + 1, none⟩ (strV (atE L i).2)) := by
  obtain ⟨o1, g1⟩ := h.stored (i * 2) (.int .i64 (atE L k).1)
  obtain ⟨o2, g2⟩ := o1.stored (i * 2 + 1) (strV (atE L k).2)
  rw [entC_set L i (atE L k)] at o2
  obtain ⟨o3, g3⟩ := o2.stored (k * 2) (.int .i64 (atE L i).1)
  obtain ⟨o4, g4⟩ := o3.stored (k * 2 + 1) (strV (atE L i).2)
  rw [entC_set (L.set i (atE L k)) k (atE L i)] at o4
  refine ⟨o4, ?_⟩
  have hr : ∀ x, some g = some x → x ∈ [g] := fun x e => by injection e with e; subst e; simp
  exact (((Turned.ofGrown g1 hr).trans (Turned.ofGrown g2 hr)).trans (Turned.ofGrown g3 hr)).trans (Turned.ofGrown g4 hr)
theorem HeapAt.cell0 {w : World} {hb mb : Nat} {v : Value} {L : List Ent} {mo : Bool} {mv : Nat} (h : HeapAt w hb mb v L mo mv) : w.cell? ⟨hb, 0, none⟩ = some v := cells_at h.blk 0 _ rfl
theorem HeapAt.cell1 {w : World} {hb mb : Nat} {v : Value} {L : List Ent} {mo : Bool} {mv : Nat} (h : HeapAt w hb mb v L mo mv) : w.cell? ⟨hb, 1, none⟩ = some (.map (some mb)) := cells_at h.blk 1 _ rfl
theorem HeapAt.cell2 {w : World} {hb mb : Nat} {v : Value} {L : List Ent} {mo : Bool} {mv : Nat} (h : HeapAt w hb mb v L mo mv) : w.cell? ⟨hb, 2, none⟩ = some (aheadV mo) := cells_at h.blk 2 _ rfl
theorem HeapAt.cell3 {w : World} {hb mb : Nat} {v : Value} {L : List Ent} {mo : Bool} {mv : Nat} (h : HeapAt w hb mb v L mo mv) : w.cell? ⟨hb, 3, none⟩ = some (.int .i64 mv) := cells_at h.blk 3 _ rfl
theorem HeapAt.free {w : World} {hb mb : Nat} {v : Value} {L : List Ent} {mo : Bool} {mv : Nat} (h : HeapAt w hb mb v L mo mv) (i : Nat) : w.frozen? ⟨hb, i, none⟩ = false := cells_free h.blk i
theorem zeroI (w : World) : (zeroValue 3).run Tryz.prog w = .ok (.int .i64 0) w := by kernel_rfl
/-- the row and the map of a heap, each block another one -/
theorem HeapAt.apart {w : World} {hb mb g n cap : Nat} {L M : List Ent} {v : Value} {mo : Bool} {mv : Nat} (h : HeapAt w hb mb v M mo mv) (ho : w.ownsRow 0 117 2 (.slice (some ⟨g, 0, none⟩) n cap) n (entC L)) : g ≠ hb ∧ g ≠ mb ∧ mb ≠ hb := by
  obtain ⟨es, clock, hm⟩ := h.map.isMap
  obtain ⟨_, ⟨hv, _⟩ | ⟨g', c, cur, hv, _, hg, _⟩⟩ := ho
  · cases hv
  · simp only [Value.slice.injEq, Option.some.injEq, Addr.mk.injEq, and_true, true_and] at hv
    obtain ⟨rfl, rfl⟩ := hv
    have h1 := h.blk
    refine ⟨?_, ?_, ?_⟩
    · rintro rfl; rw [hg] at h1; simp at h1
    · rintro rfl; rw [hg] at hm; simp at hm
    · rintro rfl; rw [hm] at h1; simp at h1
set_option maxHeartbeats 4000000 in
set_option maxRecDepth 100000 in
theorem change_any (hb mb : Nat) (v : Value) (L : List Ent) (mo : Bool) (mv i k : Nat) (w : World) (hH : HeapAt w hb mb v L mo mv) (hi : i < L.length) (hk : k < L.length) (hik : i ≠ k) (hL : L.length ≤ 1152921504606846976) (hmv : mv ≤ 1152921504606846976) :
    Calls Tryz.prog 126 #[.pointer (some ⟨hb, 0, none⟩), .int .i64 i, .int .i64 k] w fun e w' => e = .returned (.tuple #[]) ∧ HeapAt w' hb mb v (swE L i k) mo (mv + 1) ∧ Turned (foot hb mb v) w w' := by
  obtain ⟨g, cap, rfl, ho⟩ := hH.row.some (by omega)
  have hap := hH.apart ho
  have HH : Bx _ := ⟨And.intro hH hap⟩
  have c0 := hH.cell0
  have c1 := hH.cell1
  have c3 := hH.cell3
  have f3 := hH.free 3
  obtain ⟨e0, e1⟩ := ent_cells ho rfl hi
  obtain ⟨d0, d1⟩ := ent_cells ho rfl hk
  have t0 := ho.frozenAt (i * 2)
  have t1 := ho.frozenAt (i * 2 + 1)
  have t2 := ho.frozenAt (k * 2)
  have t3 := ho.frozenAt (k * 2 + 1)
  have HSW : Bx _ := ⟨row_sw ho i k⟩
  generalize hN : L.length = N at *
  have HN : Bx _ := ⟨hN⟩
  clear hN ho hH hap
  generalize hA : atE L i = A at *
  generalize hB : atE L k = B at *
  have HA : Bx _ := ⟨And.intro hA hB⟩
  clear hA hB
  obtain ⟨ar, an⟩ := A
  obtain ⟨br, bn⟩ := B
  simp only at e0 e1 d0 d1 HSW
  go_enter Tryz.func126, Tryz.ntmps126
  go_wp2_with fail
  go_region
  generalize hw1 : World.drew _ = w1
  have HS : Bx (w1.ownsRow 0 117 2 (.slice (some ⟨g, 0, none⟩) N cap) N (entC (swE L i k)) ∧ Turned [g] w w1) := ⟨by rw [← hw1]; exact ⟨HSW.out.1, HSW.out.2.drew⟩⟩
  clear hw1 HSW c0 c1 c3 f3 e0 e1 d0 d1 t0 t1 t2 t3
  as_aux_lemma =>
    have hlen := swE_len L i k
    rw [HN.out] at hlen
    have hgh : hb ∉ [g] := by simpa using (fun e => HH.out.2.1 e.symm)
    have hgm : mb ∉ [g] := by simpa using (fun e => HH.out.2.2.1 e.symm)
    have hbk : w1.heap[hb]? = _ := (HS.out.2.block hb (block_lt HH.out.1.blk) hgh).trans HH.out.1.blk
    have hmp : MapAt Tryz.prog w1 9 mb N (placesF L) := by rw [← HN.out]; exact HH.out.1.map.block (HS.out.2.block mb HH.out.1.map.lt hgm)
    have c0 : w1.cell? ⟨hb, 0, none⟩ = some (.slice (some ⟨g, 0, none⟩) N cap) := cells_at hbk 0 _ rfl
    have c1 : w1.cell? ⟨hb, 1, none⟩ = some (.map (some mb)) := cells_at hbk 1 _ rfl
    have d1 := (ent_cells HS.out.1 hlen.symm (i := i) (by omega)).2
    have d3 := (ent_cells HS.out.1 hlen.symm (i := k) (by omega)).2
    have hki := keyS (s := (atE (swE L i k) i).2) (by rw [atE_sw (by rw [HN.out]; exact hi) (by rw [HN.out]; exact hk), if_neg hik, if_pos rfl]; exact HH.out.1.txt.at k)
    have hkk := keyS (s := (atE (swE L i k) k).2) (by rw [atE_sw (by rw [HN.out]; exact hi) (by rw [HN.out]; exact hk), if_pos rfl]; exact HH.out.1.txt.at i)
    have HP : Bx _ := ⟨places_sw HH.out.1.two (by rw [HN.out]; exact hi) (by rw [HN.out]; exact hk)⟩
    generalize hX : (atE (swE L i k) i).2 = X at *
    generalize hY : (atE (swE L i k) k).2 = Y at *
    have HXY : Bx _ := ⟨And.intro hX hY⟩
    clear hX hY
    have hN2 : N < maxLen := by unfold maxLen; omega
    have hfX : placesF L (.string X) ≠ none := by
      have h1 : X = (atE L k).2 := by rw [← HXY.out.1, atE_sw (by rw [HN.out]; exact hi) (by rw [HN.out]; exact hk), if_neg hik, if_pos rfl]
      show Option.map _ _ ≠ none
      rw [h1, findE_at HH.out.1.two (by rw [HN.out]; exact hk)]
      exact fun e => by cases e
    have hfY : placesF (swE L i k) (.string Y) ≠ none := by
      rw [← HXY.out.2]
      show Option.map _ _ ≠ none
      rw [findE_at (HH.out.1.two.perm (swE_perm (by rw [HN.out]; exact hi) (by rw [HN.out]; exact hk))) (by omega)]
      exact fun e => by cases e
    have h3 : ∃ v0 st0 w3 v1 st1 w4, (Instr.mapEntry 111 (.map (some mb)) (strV X)).run Tryz.prog w1.drew = .ok (.tuple #[v0, .int .i64 st0]) w1.drew ∧ (Instr.entryStore 111 (.map (some mb)) (.int .i64 st0) (.int .i64 i)).run Tryz.prog w1.drew = .ok () w3 ∧
        (Instr.mapEntry 111 (.map (some mb)) (strV Y)).run Tryz.prog w3 = .ok (.tuple #[v1, .int .i64 st1]) w3 ∧ (Instr.entryStore 111 (.map (some mb)) (.int .i64 st1) (.int .i64 k)).run Tryz.prog w3 = .ok () w4 ∧
        w1.drew.grownBy w3 (some mb) ∧ Bx (w3.grownBy w4 (some mb) ∧ MapAt Tryz.prog w4 9 mb N (placesF (swE L i k))) := by
      have K := WideMaps.string_law (P := Tryz.prog) Tryz.underlying9
      have hmpd : MapAt Tryz.prog w1.drew 9 mb N (placesF L) := hmp.block rfl
      obtain ⟨v0, st0, hrun0, hent0⟩ := hmpd.entry_here K Tryz.underlying111 hN2 zeroI hki hfX
      obtain ⟨w3, hs3, hm3, hg3⟩ := hent0 w1.drew (.int .i64 i) rfl
      have hf3 : upd (placesF L) (.string X) (some (.int .i64 i)) (.string Y) ≠ none := by
        by_cases e : Lit.string Y = .string X
        · rw [e, upd_same]; exact fun h => by cases h
        · have := HP.out (.string Y)
          rw [upd_other _ _ e]
          intro h
          have h1 : Y = (atE L i).2 := by rw [← HXY.out.2, atE_sw (by rw [HN.out]; exact hi) (by rw [HN.out]; exact hk), if_pos rfl]
          have h2 : placesF L (.string Y) = some (.int .i64 i) := by
            rw [h1]; show Option.map _ _ = _
            rw [findE_at HH.out.1.two (by rw [HN.out]; exact hi)]; rfl
          rw [h2] at h; cases h
      obtain ⟨v1, st1, hrun1, hent1⟩ := hm3.entry_here K Tryz.underlying111 (by unfold maxLen; omega) zeroI hkk hf3
      obtain ⟨w4, hs4, hm4, hg4⟩ := hent1 w3 (.int .i64 k) rfl
      refine ⟨v0, st0, w3, v1, st1, w4, hrun0 _ rfl, hs3, hrun1 _ rfl, hs4, hg3, ⟨hg4, ?_⟩⟩
      have := (hm4.same (fun l => (HP.out l).symm)).tight places_keys
      rw [List.length_map, hlen] at this
      exact this
    obtain ⟨v0, st0, w3, v1, st1, w4, q1, q2, q3, q4, hg3, HW4⟩ := h3
    have c0' : w3.cell? ⟨hb, 0, none⟩ = some (.slice (some ⟨g, 0, none⟩) N cap) := hg3.cell c0 (by simpa using (fun e => HH.out.2.2.2 e.symm))
    have c1' : w3.cell? ⟨hb, 1, none⟩ = some (.map (some mb)) := hg3.cell c1 (by simpa using (fun e => HH.out.2.2.2 e.symm))
    have d1' := hg3.cell d1 (by simpa using HH.out.2.2.1)
    have d3' := hg3.cell d3 (by simpa using HH.out.2.2.1)
    have HB : Bx _ := ⟨And.intro hg3 hbk⟩
    clear hmp hki hkk hbk hlen hgh hgm hfX hfY hg3
    go_wp2_with fail
    go_region
    as_aux_lemma =>
      clear c0 c1 d1 d3 c0' c1' d1' d3' q1 q2 q3 q4
      have hbk4 := (HW4.out.1.block hb (block_lt ((HB.out.1.block hb (block_lt HB.out.2) (by simpa using (fun e => HH.out.2.2.2 e.symm))).trans HB.out.2)) (by simpa using (fun e => HH.out.2.2.2 e.symm))).trans ((HB.out.1.block hb (block_lt HB.out.2) (by simpa using (fun e => HH.out.2.2.2 e.symm))).trans HB.out.2)
      have c3 : w4.cell? ⟨hb, 3, none⟩ = some (.int .i64 mv) := cells_at hbk4 3 _ rfl
      have f3 : w4.frozen? ⟨hb, 3, none⟩ = false := cells_free hbk4 3
      have HE : Bx _ := ⟨hbk4⟩
      clear hbk4
      go_wp2
      go_end0
      have hgb : some g ≠ some mb := by simpa using HH.out.2.2.1
      have ho4 := ((show (w1.drew).ownsRow _ _ _ _ _ _ from HS.out.1).kept HB.out.1 (Or.inr hgb)).kept HW4.out.1 (Or.inr hgb)
      have hT : Turned (foot hb mb (.slice (some ⟨g, 0, none⟩) N cap)) w w4 := by
        have hcap := own_cap HS.out.1
        refine Turned.trans (HS.out.2.more (by simp [foot, rowB_pos (show 0 < cap by omega)])) (Turned.trans (Turned.ofGrown (w := w1) (w' := w3) (row := some mb) ⟨HB.out.1.os, HB.out.1.tape, HB.out.1.output, HB.out.1.size, HB.out.1.block⟩ ?_) (Turned.ofGrown HW4.out.1 ?_))
        · intro x e; injection e with e; subst e; simp [foot]
        · intro x e; injection e with e; subst e; simp [foot]
      refine ⟨rfl, ⟨?_, ?_, ?_, HH.out.1.two.perm (swE_perm (by rw [HN.out]; exact hi) (by rw [HN.out]; exact hk)), ?_⟩, ?_⟩
      · have := cells_set HE.out 3 (.int .i64 ((mv : Int) + 1))
        simpa using this
      · have hcap := own_cap HS.out.1
        exact RowE.mk (ownsRow_setCell_other ho4 (by simpa [Value.ownBlock] using HH.out.2.1) _) (by rw [swE_len, HN.out]) (by omega)
      · rw [swE_len, HN.out]
        exact HW4.out.2.block (Below.heap_setCell _ _ _ _ HH.out.2.2.2)
      · exact fun e he => HH.out.1.txt e ((swE_perm (by rw [HN.out]; exact hi) (by rw [HN.out]; exact hk)).mem_iff.1 he)
      · exact hT.trans ((Turned.set hb 3 _).more (by simp [foot]))
end Go.Proofs.YtaolkcbbkanhbaaGreatDoor
