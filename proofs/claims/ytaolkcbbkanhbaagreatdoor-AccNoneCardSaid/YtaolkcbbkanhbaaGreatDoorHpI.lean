/- The heap: Turn, Take. -/
import Derived.Test.YtaolkcbbkanhbaaGreatDoorHpH
set_option linter.unusedSimpArgs false
set_option linter.unusedVariables false
namespace Go.Proofs.YtaolkcbbkanhbaaGreatDoor
open Go.RowKit
theorem turn_places {L : List Ent} {i : Nat} {r : Int} (l : Lit) : placesF (L.set i (r, (atE L i).2)) l = placesF L l := by
  cases l with
  | string s =>
    show Option.map _ _ = Option.map _ _
    congr 1
    induction L generalizing i with
    | nil => rfl
    | cons a q ih =>
      cases i with
      | zero => rfl
      | succ i =>
        rw [List.set_cons_succ]
        simp only [findE]
        have : atE (a :: q) (i + 1) = atE q i := rfl
        rw [this, ih]
  | _ => rfl
theorem turn_two {L : List Ent} {i : Nat} {r : Int} (h : NoTwice L) : NoTwice (L.set i (r, (atE L i).2)) := by
  have e : (L.set i (r, (atE L i).2)).map Prod.snd = L.map Prod.snd := by
    induction L generalizing i with
    | nil => rfl
    | cons a q ih =>
      cases i with
      | zero => rfl
      | succ i => rw [List.set_cons_succ, List.map_cons, List.map_cons]; exact congrArg _ (ih (List.pairwise_cons.1 h).2)
  unfold NoTwice at h ⊢
  have h' : (L.map Prod.snd).Pairwise (· ≠ ·) := List.pairwise_map.2 h
  rw [← e] at h'
  exact List.pairwise_map.1 h'
theorem set_txt {L : List Ent} {i : Nat} {e : Ent} (h : Texts L) (he : e.2.length ≤ 9223372036854775807) : Texts (L.set i e) := fun x hx => by
  rcases List.mem_or_eq_of_mem_set hx with hx | rfl
  · exact h x hx
  · exact he
set_option maxHeartbeats 2000000 in
set_option maxRecDepth 100000 in
theorem take_none (hb mb : Nat) (v : Value) (L : List Ent) (mo : Bool) (mv : Nat) (s : List UInt8) (w : World) (hH : HeapAt w hb mb v L mo mv) (hs : s.length ≤ 9223372036854775807) (hf : findE L s = none) :
    Calls Tryz.prog 122 #[.pointer (some ⟨hb, 0, none⟩), strV s] w fun e w' => e = .returned (.tuple #[.agg #[.int .i64 0, strV []], .iface 66 (.int .i64 4)]) ∧ Below w.heap.size w w' := by
  have h1 := hH.below (below1 w (.cells #[.int .i64 0, .string ⟨#[]⟩] 117))
  have c1 := h1.cell1
  have hl : (Instr.lookup 111 (.map (some mb)) (strV s) true).run Tryz.prog (w.alloc (.cells #[.int .i64 0, .string ⟨#[]⟩] 117)) = .ok (.tuple #[.int .i64 0, .bool false]) (w.alloc (.cells #[.int .i64 0, .string ⟨#[]⟩] 117)) := by
    have := h1.look hs
    rw [hf] at this
    exact this
  clear hH h1 hf hs
  go_enter Tryz.func122, Tryz.ntmps122
  go_wp2_with fail
  refine (fnew_any 4 _ (by decide)).mono ?_
  rintro e w1 ⟨rfl, rfl⟩
  go_wp2
  exact bodyPost_ret (results_ent rfl _ _ w.heap.size 0 [] _ rfl rfl (box_cells w _ _ _).1 (box_cells w _ _ _).2) rfl ⟨rfl, below1 _ _⟩
/-- behind Take's first steps: three boxes, the count of moves at 0 -/
structure TakeBox (w w3 : World) (hb mb : Nat) (v : Value) (L : List Ent) (mo : Bool) (B : Nat) (r1 r2 : Int) (s1 s2 : List UInt8) : Prop where
  h : HeapAt w3 hb mb v L mo 0
  t : Turned [hb] w w3
  b0 : w3.heap[B]? = some (.cells #[.int .i64 0, .string ⟨#[]⟩] 117 (0, 0))
  b1 : w3.heap[B + 1]? = some (.cells #[.int .i64 r1, strV s1] 117 (0, 0))
  b2 : w3.heap[B + 1 + 1]? = some (.cells #[.int .i64 r2, strV s2] 117 (0, 0))
theorem TakeBox.mk3 (hb mb : Nat) (v : Value) (L : List Ent) (mo : Bool) (mv : Nat) (w : World) (r1 r2 : Int) (s1 s2 : List UInt8) (hH : HeapAt w hb mb v L mo mv) :
    TakeBox w ((((w.setCell ⟨hb, 3, none⟩ (.int .i64 0)).alloc (.cells #[.int .i64 0, .string ⟨#[]⟩] 117)).alloc (.cells #[.int .i64 r1, strV s1] 117)).alloc (.cells #[.int .i64 r2, strV s2] 117)) hb mb v L mo w.heap.size r1 r2 s1 s2 := by
  have h0 := hH.moved 0
  have hs : (w.setCell ⟨hb, 3, none⟩ (.int .i64 (0 : Nat))).heap.size = w.heap.size := by simp [World.setCell]
  have hb3 := below3 (w.setCell ⟨hb, 3, none⟩ (.int .i64 (0 : Nat))) (.cells #[.int .i64 0, .string ⟨#[]⟩] 117) (.cells #[.int .i64 r1, strV s1] 117) (.cells #[.int .i64 r2, strV s2] 117)
  have ht := Turned.set (w := w) hb 3 (.int .i64 (0 : Nat))
  change TakeBox w ((((w.setCell ⟨hb, 3, none⟩ (.int .i64 (0 : Nat))).alloc _).alloc _).alloc _) _ _ _ _ _ _ _ _ _ _
  generalize w.setCell ⟨hb, 3, none⟩ (.int .i64 (0 : Nat)) = u at *
  rw [← hs]
  refine ⟨h0.below hb3, ht.trans (Turned.ofBelow hb3), ?_, ?_, ?_⟩
  · have h1 := heap_alloc_new u (.cells #[.int .i64 0, .string ⟨#[]⟩] 117)
    rw [← (below2 (u.alloc (.cells #[.int .i64 0, .string ⟨#[]⟩] 117)) (.cells #[.int .i64 r1, strV s1] 117) (.cells #[.int .i64 r2, strV s2] 117)).block u.heap.size (by simp)] at h1
    exact h1
  · have h1 := heap_alloc_new (u.alloc (.cells #[.int .i64 0, .string ⟨#[]⟩] 117)) (.cells #[.int .i64 r1, strV s1] 117)
    rw [show (u.alloc (.cells #[.int .i64 0, .string ⟨#[]⟩] 117)).heap.size = u.heap.size + 1 by simp] at h1
    rw [← (below1 ((u.alloc (.cells #[.int .i64 0, .string ⟨#[]⟩] 117)).alloc (.cells #[.int .i64 r1, strV s1] 117)) (.cells #[.int .i64 r2, strV s2] 117)).block (u.heap.size + 1) (by simp)] at h1
    exact h1
  · have h1 := heap_alloc_new ((u.alloc (.cells #[.int .i64 0, .string ⟨#[]⟩] 117)).alloc (.cells #[.int .i64 r1, strV s1] 117)) (.cells #[.int .i64 r2, strV s2] 117)
    rw [show ((u.alloc (.cells #[.int .i64 0, .string ⟨#[]⟩] 117)).alloc (.cells #[.int .i64 r1, strV s1] 117)).heap.size = u.heap.size + 1 + 1 by simp] at h1
    exact h1
/-- one entry less in a row -/
theorem own_less {w : World} {g cap n : Nat} {L : List Ent} (h : w.ownsRow 0 117 2 (.slice (some ⟨g, 0, none⟩) (n + 1) cap) (n + 1) (entC L)) (hn : L.length = n + 1) :
    w.ownsRow 0 117 2 (.slice (some ⟨g, 0, none⟩) n cap) n (entC L.dropLast) := by
  obtain ⟨h1, ⟨hv, _⟩ | ⟨g', cap', cur, hv, hb, hg, hc, hm, hs, ht⟩⟩ := h
  · cases hv
  · simp only [Value.slice.injEq, Option.some.injEq, Addr.mk.injEq, and_true, true_and] at hv
    obtain ⟨rfl, rfl⟩ := hv
    refine ⟨by rw [entC_len]; simp [hn], Or.inr ⟨g, cap, cur, rfl, hb, hg, by omega, hm, hs, ?_⟩⟩
    have : cur.toList.take (n * 2) = (cur.toList.take ((n + 1) * 2)).take (n * 2) := by rw [List.take_take]; congr 1; omega
    rw [this, ht, entC_take, List.dropLast_eq_take, hn]; rfl
/-- the list has been taken shorter -/
structure TakeCut (w w4 : World) (hb mb g cap n : Nat) (L : List Ent) (mo : Bool) (B : Nat) (r1 r2 : Int) (s1 s2 : List UInt8) : Prop where
  blk : w4.heap[hb]? = some (.cells #[.slice (some ⟨g, 0, none⟩) n cap, .map (some mb), aheadV mo, .int .i64 (0 : Nat)] 115 (0, 0))
  row : w4.ownsRow 0 117 2 (.slice (some ⟨g, 0, none⟩) n cap) n (entC L.dropLast)
  t : Turned (foot hb mb (.slice (some ⟨g, 0, none⟩) n cap)) w w4
  b0 : w4.heap[B]? = some (.cells #[.int .i64 0, .string ⟨#[]⟩] 117 (0, 0))
  b1 : w4.heap[B + 1]? = some (.cells #[.int .i64 r1, strV s1] 117 (0, 0))
  b2 : w4.heap[B + 1 + 1]? = some (.cells #[.int .i64 r2, strV s2] 117 (0, 0))
theorem TakeBox.cut {w w3 : World} {hb mb g cap n : Nat} {L : List Ent} {mo : Bool} {B : Nat} {r1 r2 : Int} {s1 s2 : List UInt8} (h : TakeBox w w3 hb mb (.slice (some ⟨g, 0, none⟩) L.length cap) L mo B r1 r2 s1 s2) (hn : L.length = n + 1) (hB : hb < B) (hgh : g ≠ hb)
    (ho : w3.ownsRow 0 117 2 (.slice (some ⟨g, 0, none⟩) (n + 1) cap) (n + 1) (entC L)) :
    TakeCut w (w3.setCell ⟨hb, 0, none⟩ (.slice (some ⟨g, 0, none⟩) n cap)) hb mb g cap n L mo B r1 r2 s1 s2 ∧ MapAt Tryz.prog (w3.setCell ⟨hb, 0, none⟩ (.slice (some ⟨g, 0, none⟩) n cap)) 9 mb (n + 1) (placesF L) := by
  have hmh := h.h.rowNe.2.2
  refine ⟨⟨?_, ownsRow_setCell_other (own_less ho hn) (by simpa [Value.ownBlock] using hgh) _, (h.t.more (by simp [foot])).trans ((Turned.set hb 0 _).more (by simp [foot])), ?_, ?_, ?_⟩, ?_⟩
  · have := cells_set h.h.blk 0 (.slice (some ⟨g, 0, none⟩) n cap)
    simpa using this
  · rw [Below.heap_setCell _ _ _ _ (show B ≠ hb by omega)]; exact h.b0
  · rw [Below.heap_setCell _ _ _ _ (show B + 1 ≠ hb by omega)]; exact h.b1
  · rw [Below.heap_setCell _ _ _ _ (show B + 1 + 1 ≠ hb by omega)]; exact h.b2
  · have := h.h.map.block (Below.heap_setCell w3 ⟨hb, 0, none⟩ (.slice (some ⟨g, 0, none⟩) n cap) _ hmh)
    rw [hn] at this; exact this
theorem TakeCut.map {w w4 w5 : World} {hb mb g cap n : Nat} {L : List Ent} {mo : Bool} {B : Nat} {r1 r2 : Int} {s1 s2 : List UInt8} (h : TakeCut w w4 hb mb g cap n L mo B r1 r2 s1 s2) (hg : w4.grownBy w5 (some mb)) (hmh : mb ≠ hb) (hgm : g ≠ mb) (hm : mb < B) : TakeCut w w5 hb mb g cap n L mo B r1 r2 s1 s2 := by
  have ne : ∀ b, b ≠ mb → some b ≠ some mb := fun b h e => h (by injection e)
  refine ⟨by rw [hg.block hb (block_lt h.blk) (ne _ hmh.symm)]; exact h.blk, h.row.kept hg (Or.inr (ne _ hgm)), h.t.trans (Turned.ofGrown hg (fun x e => by injection e with e; subst e; simp [foot])), ?_, ?_, ?_⟩
  · rw [hg.block B (block_lt h.b0) (ne _ (by omega))]; exact h.b0
  · rw [hg.block (B + 1) (block_lt h.b1) (ne _ (by omega))]; exact h.b1
  · rw [hg.block (B + 1 + 1) (block_lt h.b2) (ne _ (by omega))]; exact h.b2
/-- .. and its last one put in the place of the one that goes -/
structure TakeSet (w w4 : World) (hb mb g cap n : Nat) (M : List Ent) (mo : Bool) (B : Nat) (r1 r2 : Int) (s1 s2 : List UInt8) : Prop where
  blk : w4.heap[hb]? = some (.cells #[.slice (some ⟨g, 0, none⟩) n cap, .map (some mb), aheadV mo, .int .i64 (0 : Nat)] 115 (0, 0))
  row : w4.ownsRow 0 117 2 (.slice (some ⟨g, 0, none⟩) n cap) n (entC M)
  t : Turned (foot hb mb (.slice (some ⟨g, 0, none⟩) n cap)) w w4
  b0 : w4.heap[B]? = some (.cells #[.int .i64 0, .string ⟨#[]⟩] 117 (0, 0))
  b1 : w4.heap[B + 1]? = some (.cells #[.int .i64 r1, strV s1] 117 (0, 0))
  b2 : w4.heap[B + 1 + 1]? = some (.cells #[.int .i64 r2, strV s2] 117 (0, 0))
theorem TakeCut.put {w w5 : World} {hb mb g cap n i : Nat} {L : List Ent} {mo : Bool} {B : Nat} {r1 r2 : Int} {s1 s2 : List UInt8} {f : Lit → Option Value} (h : TakeCut w w5 hb mb g cap n L mo B r1 r2 s1 s2) (hgh : ¬ hb = g) (hgm : g ≠ mb) (hgB : g < B) (hB : hb < B) (hnc : n + 1 ≤ cap)
    (hm : MapAt Tryz.prog w5 9 mb (n + 1) f) :
    TakeSet w ((w5.setCell ⟨g, i * 2, none⟩ (.int .i64 r2)).setCell ⟨g, i * 2 + 1, none⟩ (strV s2)).drew hb mb g cap n (L.dropLast.set i (r2, s2)) mo B r1 r2 s1 s2 ∧ MapAt Tryz.prog ((w5.setCell ⟨g, i * 2, none⟩ (.int .i64 r2)).setCell ⟨g, i * 2 + 1, none⟩ (strV s2)).drew 9 mb (n + 1) f := by
  obtain ⟨o1, g1⟩ := h.row.stored (i * 2) (.int .i64 r2)
  obtain ⟨o2, g2⟩ := o1.stored (i * 2 + 1) (strV s2)
  rw [entC_set L.dropLast i (r2, s2)] at o2
  have keep : ∀ b, b ≠ g → ((w5.setCell ⟨g, i * 2, none⟩ (.int .i64 r2)).setCell ⟨g, i * 2 + 1, none⟩ (strV s2)).drew.heap[b]? = w5.heap[b]? := fun b hb' => by
    show ((w5.setCell ⟨g, i * 2, none⟩ (.int .i64 r2)).setCell ⟨g, i * 2 + 1, none⟩ (strV s2)).heap[b]? = _
    rw [Below.heap_setCell _ _ _ _ hb', Below.heap_setCell _ _ _ _ hb']
  refine ⟨⟨by rw [keep hb hgh]; exact h.blk, o2, ?_, by rw [keep _ (by omega)]; exact h.b0, by rw [keep _ (by omega)]; exact h.b1, by rw [keep _ (by omega)]; exact h.b2⟩, hm.block (keep mb (fun e => hgm e.symm))⟩
  exact (h.t.trans (((Turned.set g (i * 2) _).trans (Turned.set g (i * 2 + 1) _)).more (by simp [foot, rowB_pos (show 0 < cap by omega)]))).drew
theorem TakeSet.map {w w4 w5 : World} {hb mb g cap n : Nat} {L : List Ent} {mo : Bool} {B : Nat} {r1 r2 : Int} {s1 s2 : List UInt8} (h : TakeSet w w4 hb mb g cap n L mo B r1 r2 s1 s2) (hg : w4.grownBy w5 (some mb)) (hmh : mb ≠ hb) (hgm : g ≠ mb) (hm : mb < B) : TakeSet w w5 hb mb g cap n L mo B r1 r2 s1 s2 := by
  have ne : ∀ b, b ≠ mb → some b ≠ some mb := fun b h e => h (by injection e)
  refine ⟨by rw [hg.block hb (block_lt h.blk) (ne _ hmh.symm)]; exact h.blk, h.row.kept hg (Or.inr (ne _ hgm)), h.t.trans (Turned.ofGrown hg (fun x e => by injection e with e; subst e; simp [foot])), ?_, ?_, ?_⟩
  · rw [hg.block B (block_lt h.b0) (ne _ (by omega))]; exact h.b0
  · rw [hg.block (B + 1) (block_lt h.b1) (ne _ (by omega))]; exact h.b1
  · rw [hg.block (B + 1 + 1) (block_lt h.b2) (ne _ (by omega))]; exact h.b2
set_option maxHeartbeats 4000000 in
set_option maxRecDepth 100000 in
theorem take_some (hb mb : Nat) (v : Value) (L : List Ent) (mo : Bool) (mv n : Nat) (s : List UInt8) (w : World) (hH : HeapAt w hb mb v L mo mv) (hs : s.length ≤ 9223372036854775807) (i : Nat) (hf : findE L s = some i) (hn : L.length = n + 1) (hL : n + 1 ≤ 1152921504606846976) :
    Calls Tryz.prog 122 #[.pointer (some ⟨hb, 0, none⟩), strV s] w fun e w' => e = .returned (.tuple #[.agg #[.int .i64 (atE L i).1, strV (atE L i).2], .nilIface]) ∧ ∃ v', HeapTo w w' hb mb v v' (takeH mo L i).1 mo (takeH mo L i).2 := by
  have ⟨hi, hsi⟩ := findE_some hf
  have hk := keyS hs
  have h1 := hH.below (below1 w (.cells #[.int .i64 0, .string ⟨#[]⟩] 117))
  have c1 := hH.cell1
  have c3 := hH.cell3
  have f3 := hH.free 3
  have f0 := hH.free 0
  have hl : (Instr.lookup 111 (.map (some mb)) (strV s) true).run Tryz.prog (w.alloc (.cells #[.int .i64 0, .string ⟨#[]⟩] 117)) = .ok (.tuple #[.int .i64 i, .bool true]) (w.alloc (.cells #[.int .i64 0, .string ⟨#[]⟩] 117)) := by
    have := h1.look hs
    rw [hf] at this
    exact this
  obtain ⟨g, cap, rfl, ho⟩ := hH.row.some (by omega)
  have c0 := hH.cell0
  obtain ⟨e0, e1⟩ := ent_cells ho rfl hi
  obtain ⟨d0, d1⟩ := ent_cells ho rfl (i := n) (by omega)
  obtain ⟨hg1, hg2, hg3⟩ := hH.apart ho
  have hcap := own_cap ho
  rw [hn] at c0 ho hi
  have HH : Bx _ := ⟨And.intro hH (And.intro ho (And.intro hcap (And.intro hk (And.intro hg1 (And.intro hg2 (And.intro hg3 (And.intro hn hsi)))))))⟩
  obtain ⟨r1, hr1⟩ : ∃ x, (atE L i).1 = x := ⟨_, rfl⟩
  obtain ⟨s1, hs1⟩ : ∃ x, (atE L i).2 = x := ⟨_, rfl⟩
  obtain ⟨r2, hr2⟩ : ∃ x, (atE L n).1 = x := ⟨_, rfl⟩
  obtain ⟨s2, hs2⟩ : ∃ x, (atE L n).2 = x := ⟨_, rfl⟩
  have HRR : Bx ((atE L i).1 = r1 ∧ (atE L i).2 = s1 ∧ (atE L n).1 = r2 ∧ (atE L n).2 = s2) := ⟨hr1, hs1, hr2, hs2⟩
  rw [hr1] at e0 ⊢
  rw [hs1] at e1 ⊢
  rw [hr2] at d0
  rw [hs2] at d1
  clear hr1 hs1 hr2 hs2
  have hgh : ¬ hb = g := fun e => hg1 e.symm
  have hbl : hb < w.heap.size := block_lt hH.blk
  have hgl : g < w.heap.size := cell_lt e0
  have t0 := ho.frozenAt
  clear hf hs hH h1 ho hg2 hg3 hcap hk hn hsi
  go_enter Tryz.func122, Tryz.ntmps122
  go_upto_region 10 with (fail)
  change Code.wp _ _ _ _ ((((w.setCell ⟨hb, 3, none⟩ (.int .i64 0)).alloc (.cells #[.int .i64 0, .string ⟨#[]⟩] 117)).alloc (.cells #[.int .i64 r1, strV s1] 117)).alloc (.cells #[.int .i64 r2, strV s2] 117))
  have HW := TakeBox.mk3 hb mb (.slice (some ⟨g, 0, none⟩) L.length cap) L mo mv w r1 r2 s1 s2 HH.out.1
  generalize (((w.setCell ⟨hb, 3, none⟩ (.int .i64 0)).alloc (.cells #[.int .i64 0, .string ⟨#[]⟩] 117)).alloc (.cells #[.int .i64 r1, strV s1] 117)).alloc (.cells #[.int .i64 r2, strV s2] 117) = w3 at *
  clear c0 c1 c3 f3 f0 hl e0 e1 d0 d1 t0
  obtain ⟨B, hB⟩ : ∃ B, w.heap.size = B := ⟨_, rfl⟩
  have HBB : Bx (w.heap.size = B) := ⟨hB⟩
  rw [hB] at HW hbl hgl
  simp only [hB]
  have HWB : Bx _ := ⟨HW⟩
  have c0 := HW.h.cell0
  have c1 := HW.h.cell1
  have f0 := HW.h.free 0
  rw [HH.out.2.2.2.2.2.2.2.1] at c0
  have hO3 : Bx (w3.ownsRow 0 117 2 (.slice (some ⟨g, 0, none⟩) (n + 1) cap) (n + 1) (entC L)) := ⟨by
    have h := HH.out.2.1
    exact (by
      have hr := HW.h.row.some (by rw [HH.out.2.2.2.2.2.2.2.1]; omega)
      obtain ⟨g', cap', hv, ho'⟩ := hr
      simp only [Value.slice.injEq, Option.some.injEq, Addr.mk.injEq, and_true, true_and] at hv
      obtain ⟨rfl, rfl⟩ := hv
      rw [HH.out.2.2.2.2.2.2.2.1] at ho'
      exact ho')⟩
  have hnc : n + 1 ≤ cap := (own_cap hO3.out).1
  clear HW hB
  go_upto_region 11 with (fail)
  change Code.wp _ _ _ _ (w3.setCell ⟨hb, 0, none⟩ (.slice (some ⟨g, 0, none⟩) n cap))
  have HC := HWB.out.cut HH.out.2.2.2.2.2.2.2.1 hbl HH.out.2.2.2.2.1 hO3.out
  have HC4 : Bx _ := ⟨HC⟩
  clear HC c0 c1 f0 hO3 HWB
  generalize w3.setCell ⟨hb, 0, none⟩ (.slice (some ⟨g, 0, none⟩) n cap) = w4 at *
  have c1 : w4.cell? ⟨hb, 1, none⟩ = some (.map (some mb)) := cells_at HC4.out.1.blk 1 _ rfl
  have hmB : mb < B := by have := HH.out.1.map.lt; rw [HBB.out] at this; exact this
  go_upto_region 12 with (at_delete; refine wpList_drop_at _ rfl (.tmp 63) (.tmp 64) 111 9 rfl 3 lawS Tryz.underlying111 mb (n + 1) (placesF L) rfl HC4.out.2 _ _ rfl HH.out.2.2.2.1 ?_; intro w5 hm5 ht5; have HC5 : Bx _ := ⟨And.intro (HC4.out.1.map ht5.grown HH.out.2.2.2.2.2.2.1 HH.out.2.2.2.2.2.1 hmB) hm5⟩; clear hm5 ht5 c1 HC4)
  have z0 : w5.cell? ⟨B, 0, none⟩ = some (.int .i64 0) := cells_at HC5.out.1.b0 0 _ rfl
  have z1 : w5.cell? ⟨B, 1, none⟩ = some (.string ⟨#[]⟩) := cells_at HC5.out.1.b0 1 _ rfl
  have zf0 := cells_free HC5.out.1.b0 0
  have zf1 := cells_free HC5.out.1.b0 1
  have e0 : w5.cell? ⟨B + 1, 0, none⟩ = some (.int .i64 r1) := cells_at HC5.out.1.b1 0 _ rfl
  have e1 : w5.cell? ⟨B + 1, 1, none⟩ = some (strV s1) := cells_at HC5.out.1.b1 1 _ rfl
  by_cases hin : i < n
  · have HIN : Bx (i < n) := ⟨hin⟩
    have c0 : w5.cell? ⟨hb, 0, none⟩ = some (.slice (some ⟨g, 0, none⟩) n cap) := cells_at HC5.out.1.blk 0 _ rfl
    have c1 : w5.cell? ⟨hb, 1, none⟩ = some (.map (some mb)) := cells_at HC5.out.1.blk 1 _ rfl
    have x0 : w5.cell? ⟨B + 1 + 1, 0, none⟩ = some (.int .i64 r2) := cells_at HC5.out.1.b2 0 _ rfl
    have x1 : w5.cell? ⟨B + 1 + 1, 1, none⟩ = some (strV s2) := cells_at HC5.out.1.b2 1 _ rfl
    obtain ⟨y0, y1⟩ := ent_cells HC5.out.1.row (by have := HH.out.2.2.2.2.2.2.2.1; simp; omega) (i := i) (by have := HH.out.2.2.2.2.2.2.2.1; simp; omega)
    have yf0 := HC5.out.1.row.frozenAt (i * 2)
    have yf1 := HC5.out.1.row.frozenAt (i * 2 + 1)
    generalize atE L.dropLast i = old at y0 y1
    go_upto_region 13 with (fail)
    go_region
    generalize hw6 : World.drew _ = w6
    have hln := HH.out.2.2.2.2.2.2.2.1
    have HC6 : Bx (TakeSet w w6 hb mb g cap n (L.dropLast.set i (r2, s2)) mo B r1 r2 s1 s2 ∧ MapAt Tryz.prog w6 9 mb (n + 1) (upd (placesF L) (.string s) none)) := ⟨by rw [← hw6]; exact HC5.out.1.put hgh HH.out.2.2.2.2.2.1 (by omega) (by omega) hnc HC5.out.2⟩
    clear hw6 z0 z1 zf0 zf1 e0 e1 c0 c1 x0 x1 y0 y1 yf0 yf1
    have c1 : w6.cell? ⟨hb, 1, none⟩ = some (.map (some mb)) := cells_at HC6.out.1.blk 1 _ rfl
    have x1 : w6.cell? ⟨B + 1 + 1, 1, none⟩ = some (strV s2) := cells_at HC6.out.1.b2 1 _ rfl
    obtain ⟨w7, hrun, hm7, ht7⟩ := (show MapAt Tryz.prog w6.drew 9 mb (n + 1) (upd (placesF L) (.string s) none) from HC6.out.2.block rfl).store lawS Tryz.underlying111 (by unfold maxLen; omega) (.int .i64 (i : Int)) (keyS (s := s2) (by rw [← HRR.out.2.2.2]; exact HH.out.1.txt.at n))
    have hg7 : w6.grownBy w7 (some mb) := ⟨ht7.grown.os, ht7.grown.tape, ht7.grown.output, ht7.grown.size, ht7.grown.block⟩
    have HC7 : Bx _ := ⟨And.intro (HC6.out.1.map hg7 HH.out.2.2.2.2.2.2.1 HH.out.2.2.2.2.2.1 hmB) hm7⟩
    clear hm7 ht7 hg7 hln
    go_wp2_with fail
    go_region
    clear hrun c1 x1
    have hln := HH.out.2.2.2.2.2.2.2.1
    have hat : atE L n = (r2, s2) := by rw [← HRR.out.2.2.1, ← HRR.out.2.2.2]
    have hmp := (HC7.out.2.same (g := placesF (L.dropLast.set i (r2, s2))) (fun l => by rw [← hat, ← places_take HH.out.1.two hln HIN.out l, HH.out.2.2.2.2.2.2.2.2, hat])).tight places_keys
    rw [List.length_map] at hmp
    have h7 : HeapAt w7 hb mb (.slice (some ⟨g, 0, none⟩) n cap) (L.dropLast.set i (r2, s2)) mo 0 := ⟨HC7.out.1.blk, RowE.mk HC7.out.1.row (by simp [hln]) (by omega), hmp, by rw [← hat]; exact noTwice_take HH.out.1.two hln HIN.out, set_txt (fun e he => HH.out.1.txt e (List.dropLast_subset L he)) (by have := HH.out.1.txt.at n; rw [hat] at this; exact this)⟩
    have htk : takeH mo L i = mendH mo (L.dropLast.set i (r2, s2)) i := by unfold takeH; rw [if_pos (by have := HIN.out; omega), show L.length - 1 = n by omega, hat]
    have km := mend_any hb mb _ (L.dropLast.set i (r2, s2)) mo 0 i w7 h7 (by simp [hln]; exact HIN.out) (by simp [hln]; omega) (by
      have h1 := takeH_moves mo L i
      have h2 : (takeH mo L i).2 < 2 ^ (takeH mo L i).2 := Nat.lt_two_pow_self
      rw [htk] at h1 h2
      omega)
    rw [Nat.zero_add] at km
    have HTK : Bx _ := ⟨htk⟩
    clear hmp h7 htk hat hln
    go_wp2_with fail
    refine km.mono ?_
    rintro e w8 ⟨rfl, h8, t8⟩
    have hnB : ∀ b, B ≤ b → b ∉ foot hb mb (.slice (some ⟨g, 0, none⟩) n cap) := by
      intro b hb'
      simp only [foot, rowB_pos (show 0 < cap by omega), List.mem_cons, Option.mem_toList, Option.some.injEq]
      omega
    have k0 := (t8.block B (block_lt HC7.out.1.b0) (hnB _ (Nat.le_refl _))).trans HC7.out.1.b0
    have k1 := (t8.block (B + 1) (block_lt HC7.out.1.b1) (hnB _ (by omega))).trans HC7.out.1.b1
    have H8 : Bx _ := ⟨And.intro h8 (And.intro t8 (And.intro k0 hnB))⟩
    have z0 : w8.cell? ⟨B, 0, none⟩ = some (.int .i64 0) := cells_at k0 0 _ rfl
    have z1 : w8.cell? ⟨B, 1, none⟩ = some (.string ⟨#[]⟩) := cells_at k0 1 _ rfl
    have zf0 := cells_free k0 0
    have zf1 := cells_free k0 1
    have e0 : w8.cell? ⟨B + 1, 0, none⟩ = some (.int .i64 r1) := cells_at k1 0 _ rfl
    have e1 : w8.cell? ⟨B + 1, 1, none⟩ = some (strV s1) := cells_at k1 1 _ rfl
    clear h8 t8 k0 k1 hnB km
    go_wp2
    have hc := set2_cells H8.out.2.2.1 (.int .i64 r1) (strV s1)
    refine bodyPost_ret (results_ent rfl _ _ B r1 s1 _ rfl rfl hc.1 hc.2) rfl ⟨rfl, .slice (some ⟨g, 0, none⟩) n cap, ?_⟩
    rw [HTK.out]
    have hts : Turned [B] w8 ((w8.setCell ⟨B, 0, none⟩ (.int .i64 r1)).setCell ⟨B, 1, none⟩ (strV s1)) := (Turned.set B 0 _).trans (Turned.set B 1 _)
    refine ⟨H8.out.1.kept hts (fun x hx => H8.out.2.2.2 x (by simp at hx; omega)), ?_, Or.inl (by rw [rowB_pos (show 0 < cap by omega), rowB_pos (show 0 < cap by omega)])⟩
    have hfe : foot hb mb (.slice (some ⟨g, 0, none⟩) L.length cap) = foot hb mb (.slice (some ⟨g, 0, none⟩) n cap) := by simp only [foot, rowB_pos (show 0 < cap by omega)]
    rw [hfe]
    exact (HC7.out.1.t.trans H8.out.2.1).step hts (fun x hx => Or.inr (by rw [HBB.out]; simp at hx; omega))
  · obtain rfl : i = n := by omega
    have hfin : takeH mo L i = (L.dropLast, 0) := by
      have := HH.out.2.2.2.2.2.2.2.1
      unfold takeH; rw [if_neg (by omega)]
    have HFIN : Bx _ := ⟨hfin⟩
    clear hfin hi
    go_wp2
    have hc := set2_cells HC5.out.1.b0 (.int .i64 r1) (strV s1)
    refine bodyPost_ret (results_ent rfl _ _ B r1 s1 _ rfl rfl hc.1 hc.2) rfl ⟨rfl, .slice (some ⟨g, 0, none⟩) i cap, ?_⟩
    rw [HFIN.out]
    have hln := HH.out.2.2.2.2.2.2.2.1
    have hm := (HC5.out.2.same (g := placesF L.dropLast) (fun l => by rw [← places_drop HH.out.1.two hln l, HH.out.2.2.2.2.2.2.2.2])).tight places_keys
    rw [List.length_map] at hm
    have h5 : HeapAt w5 hb mb (.slice (some ⟨g, 0, none⟩) i cap) L.dropLast mo 0 := ⟨HC5.out.1.blk, RowE.mk HC5.out.1.row (by simp [hln]) (by omega), hm, noTwice_drop HH.out.1.two, fun e he => HH.out.1.txt e (List.dropLast_subset L he)⟩
    have hne : ∀ x ∈ [B], x ∉ foot hb mb (.slice (some ⟨g, 0, none⟩) i cap) := by
      intro x hx
      obtain rfl : x = B := by simpa using hx
      simp only [foot, rowB_pos (show 0 < cap by omega), List.mem_cons, Option.mem_toList, Option.some.injEq]
      omega
    have hts : Turned [B] w5 ((w5.setCell ⟨B, 0, none⟩ (.int .i64 r1)).setCell ⟨B, 1, none⟩ (strV s1)) := (Turned.set B 0 _).trans (Turned.set B 1 _)
    refine ⟨h5.kept hts hne, ?_, Or.inl (by rw [rowB_pos (show 0 < cap by omega), rowB_pos (show 0 < cap by omega)])⟩
    have hfe : foot hb mb (.slice (some ⟨g, 0, none⟩) L.length cap) = foot hb mb (.slice (some ⟨g, 0, none⟩) i cap) := by simp only [foot, rowB_pos (show 0 < cap by omega)]
    rw [hfe]
    exact HC5.out.1.t.step hts (fun x hx => Or.inr (by rw [HBB.out]; simp at hx; omega))
end Go.Proofs.YtaolkcbbkanhbaaGreatDoor
