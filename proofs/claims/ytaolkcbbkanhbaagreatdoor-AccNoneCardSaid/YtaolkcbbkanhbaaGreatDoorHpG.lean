/- The heap: Put. -/
import Derived.Test.YtaolkcbbkanhbaaGreatDoorHpF
import Derived.Deep.Cut
set_option linter.unusedSimpArgs false
set_option linter.unusedVariables false
namespace Go.Proofs.YtaolkcbbkanhbaaGreatDoor
open Go.RowKit
theorem fnew_any (c : Int) (w : World) (hc : 1 ≤ c) : Calls Tryz.prog 25 #[.int .i64 c] w fun e w' => e = .returned (.iface 66 (.int .i64 c)) ∧ w = w' := by
  have h0 : (c == 0) = false := by simp; omega
  go_enter Tryz.func25, Tryz.ntmps25
  go_wp2
  go_ret
  exact ⟨rfl, rfl⟩
theorem findE_app (L : List Ent) (e : Ent) (s : List UInt8) : findE (L ++ [e]) s = match findE L s with | some i => some i | none => if e.2 == s then some L.length else none := by
  induction L with
  | nil => simp only [List.nil_append, findE, List.length_nil]; split <;> rfl
  | cons a r ih =>
    simp only [List.cons_append, findE]
    by_cases h : (a.2 == s) = true
    · rw [if_pos h, if_pos h]
    · rw [if_neg h, if_neg h, ih]
      cases findE r s with
      | some i => rfl
      | none =>
        simp only [Option.map_none, List.length_cons]
        by_cases h2 : (e.2 == s) = true
        · rw [if_pos h2, if_pos h2]; rfl
        · rw [if_neg h2, if_neg h2]; rfl
theorem places_snoc {L : List Ent} {e : Ent} (hn : findE L e.2 = none) (l : Lit) : upd (placesF L) (.string e.2) (some (.int .i64 L.length)) l = placesF (L ++ [e]) l := by
  by_cases h : l = .string e.2
  · subst h
    rw [upd_same]
    show _ = Option.map _ _
    rw [findE_app, hn]
    simp
  · rw [upd_other _ _ h]
    cases l with
    | string s =>
      show Option.map _ _ = Option.map _ _
      rw [findE_app]
      have : (e.2 == s) = false := by simp; intro he; exact h (by rw [he])
      rw [this]
      cases findE L s <;> rfl
    | _ => rfl
theorem noTwice_snoc {L : List Ent} {e : Ent} (hN : NoTwice L) (hn : findE L e.2 = none) : NoTwice (L ++ [e]) := by
  unfold NoTwice
  rw [List.pairwise_append]
  refine ⟨hN, List.pairwise_singleton _ _, fun a ha b hb => ?_⟩
  rcases List.mem_cons.1 hb with rfl | hb
  · exact findE_none hn a ha
  · cases hb
/-- the look-up of a name in the map of places -/
theorem HeapAt.look {w : World} {hb mb : Nat} {v : Value} {L : List Ent} {mo : Bool} {mv : Nat} (h : HeapAt w hb mb v L mo mv) {s : List UInt8} (hs : s.length ≤ 9223372036854775807) :
    (Instr.lookup 111 (.map (some mb)) (strV s) true).run Tryz.prog w = .ok (.tuple #[.int .i64 ((findE L s).getD 0 : Nat), .bool (findE L s).isSome]) w := by
  have := (h.map.look lawS Tryz.underlying111 (zeroI w) (keyS hs)).1
  rw [this]
  have e : placesF L (.string s) = (findE L s).map (fun i : Nat => Value.int .i64 (i : Int)) := rfl
  rw [e]
  cases findE L s <;> rfl
/-- what a call on a heap leaves -/
structure HeapTo (w w' : World) (hb mb : Nat) (v v' : Value) (L' : List Ent) (mo : Bool) (mv' : Nat) : Prop where
  h : HeapAt w' hb mb v' L' mo mv'
  t : Turned (foot hb mb v) w w'
  r : rowB v' = rowB v ∨ ∀ g, rowB v' = some g → w.heap.size ≤ g
theorem foot_step {hb mb S : Nat} {v v' : Value} (h : rowB v' = rowB v ∨ ∀ g, rowB v' = some g → S ≤ g) : ∀ x ∈ foot hb mb v', x ∈ foot hb mb v ∨ S ≤ x := by
  intro x hx
  simp only [foot, List.mem_cons, Option.mem_toList] at hx ⊢
  rcases hx with hx | hx | hx
  · exact Or.inl (Or.inl hx)
  · exact Or.inl (Or.inr (Or.inl hx))
  · rcases h with h | h
    · exact Or.inl (Or.inr (Or.inr (by rw [← h]; exact hx)))
    · exact Or.inr (h x hx)
set_option maxHeartbeats 4000000 in
set_option maxRecDepth 100000 in
theorem put_known (hb mb : Nat) (v : Value) (L : List Ent) (mo : Bool) (mv : Nat) (r : Int) (s : List UInt8) (w : World) (hH : HeapAt w hb mb v L mo mv) (hs : s.length ≤ 9223372036854775807) (i : Nat) (hf : findE L s = some i) :
    Calls Tryz.prog 121 #[.pointer (some ⟨hb, 0, none⟩), .agg #[.int .i64 r, strV s]] w fun e w' => e = .returned (.iface 66 (.int .i64 5)) ∧ Below w.heap.size w w' := by
  have h0 := hH.below (below1 w (.cells #[.int .i64 r, strV s] 117))
  have c1 := h0.cell1
  have hl := (show HeapAt (w.alloc (.cells #[.int .i64 r, strV s] 117)).drew hb mb v L mo mv from h0.below (Below.refl _ _).drew).look hs
  rw [hf] at hl
  simp only [Option.getD_some, Option.isSome_some] at hl
  clear h0 hH hf
  go_enter Tryz.func121, Tryz.ntmps121
  go_wp2_with fail
  go_region
  go_wp2_with fail
  refine (fnew_any 5 _ (by decide)).mono ?_
  rintro e w1 ⟨rfl, rfl⟩
  go_wp2
  go_ret
  exact ⟨rfl, (below1 _ _).drew⟩
/-- the count of moves, written -/
theorem HeapAt.moved {w : World} {hb mb : Nat} {v : Value} {L : List Ent} {mo : Bool} {mv : Nat} (h : HeapAt w hb mb v L mo mv) (k : Nat) : HeapAt (w.setCell ⟨hb, 3, none⟩ (.int .i64 k)) hb mb v L mo k := by
  obtain ⟨es, clock, hm⟩ := h.map.isMap
  have hmh : mb ≠ hb := by rintro rfl; have := h.blk; rw [hm] at this; simp at this
  refine ⟨?_, ?_, h.map.block (Below.heap_setCell _ _ _ _ hmh), h.two, h.txt⟩
  · have := cells_set h.blk 3 (.int .i64 (k : Int))
    simpa using this
  · rcases h.row with ⟨g, cap, h0, rfl, ho⟩ | hr
    · refine Or.inl ⟨g, cap, h0, rfl, ownsRow_setCell_other ho ?_ _⟩
      have := h.apart ho
      simpa [Value.ownBlock] using this.1
    · exact Or.inr hr
theorem HeapAt.rowNe {w : World} {hb mb : Nat} {v : Value} {L : List Ent} {mo : Bool} {mv : Nat} (h : HeapAt w hb mb v L mo mv) : rowB v ≠ some hb ∧ rowB v ≠ some mb ∧ mb ≠ hb := by
  obtain ⟨es, clock, hm⟩ := h.map.isMap
  have hmh : mb ≠ hb := by rintro rfl; have := h.blk; rw [hm] at this; simp at this
  rcases h.row with ⟨g, cap, h0, rfl, ho⟩ | ⟨_, A, rfl⟩
  · have := h.apart ho
    rw [rowB_pos h0]
    exact ⟨by simpa using this.1, by simpa using this.2.1, hmh⟩
  · cases A <;> exact ⟨(by intro e; cases e), (by intro e; cases e), hmh⟩
theorem news_box (w : World) (b : Nat) (r : Int) (s : List UInt8) (h0 : w.cell? ⟨b, 0, none⟩ = some (.int .i64 r)) (h1 : w.cell? ⟨b, 1, none⟩ = some (strV s)) : ∀ (j : Nat) (u : Value), [Value.int .i64 r, strV s][j]? = some u → w.cell? ((⟨b, 0, none⟩ : Addr).add j) = some u := fun j u hj => by
  match j, hj with
  | 0, hj =>
    have e : (⟨b, 0, none⟩ : Addr).add 0 = ⟨b, 0, none⟩ := by simp [Addr.add]
    rw [e, h0]; simpa using hj
  | 1, hj =>
    have e : (⟨b, 0, none⟩ : Addr).add 1 = ⟨b, 1, none⟩ := by simp [Addr.add]
    rw [e, h1]; simpa using hj
  | j + 2, hj => simp at hj
theorem box_cells (w : World) (r : Int) (s : List UInt8) (T : TypeId) : (w.alloc (.cells #[.int .i64 r, strV s] T)).cell? ⟨w.heap.size, 0, none⟩ = some (.int .i64 r) ∧ (w.alloc (.cells #[.int .i64 r, strV s] T)).cell? ⟨w.heap.size, 1, none⟩ = some (strV s) := by
  constructor
  · rw [World.cell?_alloc_at _ _ _ _ rfl]; rfl
  · rw [World.cell?_alloc_at _ _ _ _ rfl]; rfl
set_option maxHeartbeats 8000000 in
set_option maxRecDepth 100000 in
theorem put_new (hb mb : Nat) (v : Value) (L : List Ent) (mo : Bool) (mv : Nat) (r : Int) (s : List UInt8) (w : World) (hH : HeapAt w hb mb v L mo mv) (hs : s.length ≤ 9223372036854775807) (hf : findE L s = none) (hL : (L.length + 1) * 24 ≤ 225179981352000) :
    Calls Tryz.prog 121 #[.pointer (some ⟨hb, 0, none⟩), .agg #[.int .i64 r, strV s]] w fun e w' => e = .returned .nilIface ∧ ∃ v', HeapTo w w' hb mb v v' (putH mo L (r, s)).1 mo (putH mo L (r, s)).2 := by
  have HL : Bx _ := ⟨And.intro hf (And.intro hL (And.intro hs hH))⟩
  have h0 : HeapAt (w.alloc (.cells #[.int .i64 r, strV s] 117)) hb mb v L mo mv := hH.below (below1 _ _)
  have b01 := box_cells w r s 117
  have hsz : (w.alloc (.cells #[.int .i64 r, strV s] 117)).heap.size = w.heap.size + 1 := by simp
  have H0 : Bx _ := ⟨And.intro h0 (And.intro b01 (And.intro (below1 w (.cells #[.int .i64 r, strV s] 117)) hsz))⟩
  have c1 := h0.cell1
  have c3 := h0.cell3
  have f3 := h0.free 3
  have hl : (Instr.lookup 111 (.map (some mb)) (strV s) true).run Tryz.prog (w.alloc (.cells #[.int .i64 r, strV s] 117)).drew = .ok (.tuple #[.int .i64 0, .bool false]) (w.alloc (.cells #[.int .i64 r, strV s] 117)).drew := by
    have := (show HeapAt (w.alloc (.cells #[.int .i64 r, strV s] 117)).drew hb mb v L mo mv from h0.below (Below.refl _ _).drew).look hs
    rw [hf] at this
    exact this
  clear h0 hH hf hsz hL hs b01
  go_enter Tryz.func121, Tryz.ntmps121
  go_wp2_with fail
  generalize hw0 : w.alloc (.cells #[.int .i64 r, strV s] 117) = w0 at *
  generalize hB : w.heap.size = B at *
  have HB : Bx (w.heap.size = B) := ⟨hB⟩
  clear hw0 hB
  obtain ⟨b0, b1⟩ := H0.out.2.1
  go_region
  go_upto_region 7 with (fail)
  change Code.wp _ _ _ _ ((w0.setCell ⟨hb, 3, none⟩ (.int .i64 0)).drew)
  have hT1 : Turned [hb] w0 (w0.setCell ⟨hb, 3, none⟩ (.int .i64 0)).drew := (Turned.set hb 3 _).drew
  have h1 : HeapAt (w0.setCell ⟨hb, 3, none⟩ (.int .i64 0)).drew hb mb v L mo 0 := (H0.out.1.moved 0).below (Below.refl _ _).drew
  generalize (w0.setCell ⟨hb, 3, none⟩ (.int .i64 0)).drew = w1 at *
  have hbB : hb ≠ B := by have := block_lt HL.out.2.2.2.blk; rw [HB.out] at this; omega
  have hmB : mb ≠ B := by have := HL.out.2.2.2.map.lt; rw [HB.out] at this; omega
  have b0' := hT1.cell b0 (by simpa using (fun e => hbB e.symm))
  have b1' := hT1.cell b1 (by simpa using (fun e => hbB e.symm))
  clear b0 b1 c1 c3 f3 hl
  have c0 := h1.cell0
  have c1 := h1.cell1
  obtain ⟨A, cap, rfl, hcap⟩ := h1.row.form
  obtain ⟨N, hN⟩ : ∃ N, L.length = N := ⟨_, rfl⟩
  have HN : Bx (L.length = N) := ⟨hN⟩
  have h1d : HeapAt w1.drew hb mb (.slice A L.length cap) L mo 0 := h1.below (Below.refl _ _).drew
  obtain ⟨w2, hrun2, hm2, ht2⟩ := h1d.map.store lawS Tryz.underlying111 (by have := HL.out.2.1; unfold maxLen; omega) (.int .i64 (L.length : Int)) (keyS HL.out.2.2.1)
  obtain ⟨es, clock, hmm⟩ := h1.map.isMap
  have hmh : mb ≠ hb := by rintro rfl; have := h1.blk; rw [hmm] at this; simp at this
  have hg2 := ht2.grown
  have hT2 : Turned [mb] w1 w2 := Turned.ofGrown (w := w1) (row := some mb) ⟨hg2.os, hg2.tape, hg2.output, hg2.size, hg2.block⟩ (fun x e => by injection e with e; subst e; simp)
  rw [hN] at c0 hrun2 hcap
  have H1 : Bx _ := ⟨And.intro h1 (And.intro hT1 (And.intro hm2 (And.intro hT2 (And.intro hmh (And.intro hbB hmB)))))⟩
  clear hN h1d hm2 ht2 hg2 hmm h1 hT1 hT2
  go_wp2_with fail
  go_region
  clear hrun2 c0 c1
  have d0 := H1.out.2.2.2.1.cell H1.out.1.cell0 (by simpa using H1.out.2.2.2.2.1.symm)
  rw [HN.out] at d0
  have b0 := H1.out.2.2.2.1.cell b0' (by simpa using (fun e => H1.out.2.2.2.2.2.2 e.symm))
  have b1 := H1.out.2.2.2.1.cell b1' (by simpa using (fun e => H1.out.2.2.2.2.2.2 e.symm))
  clear b0' b1'
  go_upto_region 8 with (fail)
  have hne := H1.out.1.rowNe
  have HR : Bx (∀ o, RowE (w2.drew.alloc o) (.slice A N cap) L) := ⟨fun o => by
    have h := H1.out.1.row.kept H1.out.2.2.2.1 (by simpa using hne.2.1)
    rw [HN.out] at h
    exact h.kept (S := []) (Turned.ofBelow ((Below.refl _ _).drew.trans (below1 w2.drew o))) (by simp)⟩
  have HK2 : Bx (w2.heap[hb]? = some (.cells #[.slice A N cap, .map (some mb), aheadV mo, .int .i64 (0 : Nat)] 115 (0, 0))) := ⟨by
    rw [H1.out.2.2.2.1.block hb (block_lt H1.out.1.blk) (by simpa using H1.out.2.2.2.2.1.symm), H1.out.1.blk, HN.out]⟩
  have HNE : Bx _ := ⟨hne⟩
  have HKA : Bx (∀ o w3, Turned (rowB (.slice A N cap)).toList (w2.drew.alloc o) w3 → Bx (w3.heap[hb]? = some (.cells #[.slice A N cap, .map (some mb), aheadV mo, .int .i64 (0 : Nat)] 115 (0, 0))) ∧ w3.cell? ⟨hb, 0, none⟩ = some (.slice A N cap) ∧ w3.frozen? ⟨hb, 0, none⟩ = false) := ⟨fun o w3 hT => by
    have hl := block_lt HK2.out
    have h1 : (w2.drew.alloc o).heap[hb]? = w2.heap[hb]? := (below1 w2.drew o).block hb hl
    have h2 : w3.heap[hb]? = _ := ((hT.block hb (by simp only [heap_push, Array.size_push]; exact Nat.lt_succ_of_lt hl) (by rw [← HN.out]; simpa using hne.1)).trans h1).trans HK2.out
    exact ⟨⟨h2⟩, cells_at h2 0 _ rfl, cells_free h2 0⟩⟩
  have hLs := HL.out.2.1
  rw [HN.out] at hLs
  clear hne d0
  have d0 : w2.cell? ⟨hb, 0, none⟩ = some (.slice A N cap) := cells_at HK2.out 0 _ rfl
  have hlt : hb < w2.heap.size := block_lt HK2.out
  have hltB : B < w2.heap.size := cell_lt b0
  go_region_law (refine step_append_row rfl _ _ rfl (.slice A N cap) L N HN.out (r, s) (by simp [Act.eval, Act.put]) (HR.out _) ⟨w2.heap.size, 0, none⟩ (by simp [Act.eval, Act.put]) (news_box _ _ _ _ (box_cells w2.drew r s _).1 (box_cells w2.drew r s _).2) hLs ?_; intro g cap' w3 hown hT hat; obtain ⟨hk3, c3', f3'⟩ := HKA.out _ _ hT)
  all_goals
    clear b0 b1 d0
    generalize hW : w2.alloc (.cells #[.int .i64 r, strV s] 117) = wa at *
    have hba : Below w2.heap.size w2 wa := by rw [← hW]; exact below1 _ _
    clear hW
    have hTa : Turned (rowB (.slice A N cap)).toList w2 w3 := (Turned.ofBelow hba.drew).trans hT
    have hgh : g ≠ hb := by
      rcases hat with h | h
      · rintro rfl; exact HNE.out.1 (by rw [HN.out]; exact h)
      · have := hba.size
        have : wa.heap.size ≤ g := h
        omega
    have hgm : g ≠ mb := by
      rcases hat with h | h
      · rintro rfl; exact HNE.out.2.1 (by rw [HN.out]; exact h)
      · have := hba.size
        have : wa.heap.size ≤ g := h
        have := H1.out.2.2.1.lt
        omega
    have hcp := own_cap hown
    have H4 : HeapAt (w3.setCell ⟨hb, 0, none⟩ (.slice (some ⟨g, 0, none⟩) (N + 1) cap')) hb mb (.slice (some ⟨g, 0, none⟩) (N + 1) cap') (L ++ [(r, s)]) mo 0 := by
      refine ⟨?_, ?_, ?_, noTwice_snoc HL.out.2.2.2.two HL.out.1, ?_⟩
      · have := cells_set hk3.out 0 (.slice (some ⟨g, 0, none⟩) (N + 1) cap')
        simpa using this
      · exact RowE.mk (ownsRow_setCell_other hown (by simpa [Value.ownBlock] using hgh) _) (by simp [HN.out]) (by omega)
      · have hm3 := (H1.out.2.2.1.block (hTa.block mb H1.out.2.2.1.lt (by rw [← HN.out]; simpa using HNE.out.2.1))).block (Below.heap_setCell w3 ⟨hb, 0, none⟩ (.slice (some ⟨g, 0, none⟩) (N + 1) cap') _ HNE.out.2.2)
        have := hm3.same (fun l => (places_snoc (e := (r, s)) HL.out.1 l).symm)
        rw [show (L ++ [(r, s)]).length = L.length + 1 by simp]
        exact this
      · intro e he
        rcases List.mem_append.1 he with he | he
        · exact HL.out.2.2.2.txt e he
        · rcases List.mem_cons.1 he with rfl | he
          · exact HL.out.2.2.1
          · cases he
    have hT4 : Turned (foot hb mb (.slice A N cap)) w (w3.setCell ⟨hb, 0, none⟩ (.slice (some ⟨g, 0, none⟩) (N + 1) cap')) := by
      have t0 : Turned (foot hb mb (.slice A N cap)) w w0 := Turned.ofBelow (by rw [HB.out]; exact H0.out.2.2.1)
      refine t0.trans ((H1.out.2.1.more (by simp [foot])).trans ((H1.out.2.2.2.1.more (by simp [foot])).trans ((hTa.more ?_).trans ((Turned.set hb 0 _).more (by simp [foot])))))
      intro x hx
      simp only [foot, List.mem_cons]
      exact Or.inr (Or.inr hx)
    have hge : rowB (.slice (some ⟨g, 0, none⟩) (N + 1) cap') = rowB (.slice A N cap) ∨ ∀ x, rowB (.slice (some ⟨g, 0, none⟩) (N + 1) cap') = some x → w.heap.size ≤ x := by
      rw [rowB_pos (show 0 < cap' by omega)]
      rcases hat with h | h
      · exact Or.inl h.symm
      · right
        intro x hx
        injection hx with hx
        subst hx
        have h1 := hba.size
        have h2 : wa.heap.size ≤ g := h
        have h3 := H1.out.2.2.2.1.size
        have h4 := H1.out.2.1.size
        have h5 := H0.out.2.2.2
        rw [HB.out]
        omega
    generalize w3.setCell ⟨hb, 0, none⟩ (.slice (some ⟨g, 0, none⟩) (N + 1) cap') = w4 at *
    have HG : Bx _ := ⟨And.intro H4 (And.intro hT4 hge)⟩
    have c0 := H4.cell0
    have ku := up_any hb mb _ (L ++ [(r, s)]) mo 0 N w4 H4 (by simp [HN.out]) (by simp [HN.out]; omega) (by
      have h1 := putH_moves mo L (r, s)
      have h2 : (putH mo L (r, s)).2 < 2 ^ (putH mo L (r, s)).2 := Nat.lt_two_pow_self
      unfold putH at h1 h2
      rw [HN.out] at h1 h2
      omega)
    clear hown hT hat hk3 c3' f3' hTa hgh hgm hcp H4 hT4 hge hba
    go_wp2_with fail
    refine ku.mono ?_
    rintro e w5 ⟨rfl, h5, t5⟩
    have HE : Bx _ := ⟨And.intro h5 t5⟩
    clear ku h5 t5 c0
    go_wp2
    go_ret
    refine ⟨rfl, .slice (some ⟨g, 0, none⟩) (N + 1) cap', ?_⟩
    have hu : putH mo L (r, s) = upH mo (L ++ [(r, s)]) N := by unfold putH; rw [HN.out]
    rw [hu, HN.out]
    have h := HE.out.1
    rw [Nat.zero_add] at h
    exact ⟨h, HG.out.2.1.step HE.out.2 (foot_step HG.out.2.2), HG.out.2.2⟩
end Go.Proofs.YtaolkcbbkanhbaaGreatDoor
