/- Accumulators of the least and of the greatest: Add, Slot. Condition: the table of powers of ten is laid. -/
import Derived.Test.YtaolkcbbkanhbaaGreatDoorAcE
set_option linter.unusedSimpArgs false
set_option linter.unusedVariables false
namespace Go.Proofs.YtaolkcbbkanhbaaGreatDoor
open Go.RowKit
open Go.Maps (Keyed)
theorem box3 (w : World) (x y z : Value) (T : TypeId) : (w.alloc (.cells #[x, y, z] T)).cell? ⟨w.heap.size, 0, none⟩ = some x ∧ (w.alloc (.cells #[x, y, z] T)).cell? ⟨w.heap.size, 1, none⟩ = some y ∧ (w.alloc (.cells #[x, y, z] T)).cell? ⟨w.heap.size, 2, none⟩ = some z := by
  refine ⟨?_, ?_, ?_⟩
  · rw [World.cell?_alloc_at _ _ _ _ rfl]; rfl
  · rw [World.cell?_alloc_at _ _ _ _ rfl]; rfl
  · rw [World.cell?_alloc_at _ _ _ _ rfl]; rfl
theorem row_block {w : World} {hb mb : Nat} {v : Value} {L : List Ent} {mo : Bool} {mv : Nat} (h : HeapAt w hb mb v L mo mv) {g : Nat} (hg : rowB v = some g) : ∃ cs z, w.heap[g]? = some (.cells cs 117 z) := by
  rcases h.row with ⟨g', cap, h0, rfl, ho⟩ | ⟨_, A, rfl⟩
  · rw [rowB_pos h0] at hg
    obtain rfl := Option.some.inj hg
    obtain ⟨_, ⟨hv, _⟩ | ⟨M, c, cur, hv, _, hgb, _⟩⟩ := ho
    · cases hv
    · simp only [Value.slice.injEq, Option.some.injEq, Addr.mk.injEq, and_true, true_and] at hv
      obtain ⟨rfl, rfl⟩ := hv
      exact ⟨_, _, hgb⟩
  · cases A <;> cases hg
/-- a block of another type is no block of a heap's -/
theorem foot_cells {w : World} {hb pm x : Nat} {v : Value} {L : List Ent} {mo : Bool} {mv : Nat} (h : HeapAt w hb pm v L mo mv) {cs : Array Value} {T : TypeId} {z : Nat × Nat} (hx : w.heap[x]? = some (.cells cs T z)) (h1 : T ≠ 115) (h2 : T ≠ 117) : x ∉ foot hb pm v := by
  intro hm
  simp only [foot, List.mem_cons, Option.mem_toList] at hm
  rcases hm with rfl | rfl | hm
  · have := h.blk; rw [hx] at this; injection this with this; injection this with _ this; exact h1 this
  · obtain ⟨es, clock, he⟩ := h.map.isMap
    rw [hx] at he; cases he
  · obtain ⟨cs', z', he⟩ := row_block h hm
    rw [hx] at he; injection he with he; injection he with _ he; exact h2 he
theorem foot_map {w : World} {hb pm x : Nat} {v : Value} {L : List Ent} {mo : Bool} {mv : Nat} (h : HeapAt w hb pm v L mo mv) {es : Array MapEntry} {c : Nat} (hx : w.heap[x]? = some (.map es c)) (hne : x ≠ pm) : x ∉ foot hb pm v := by
  intro hm
  simp only [foot, List.mem_cons, Option.mem_toList] at hm
  rcases hm with rfl | rfl | hm
  · have := h.blk; rw [hx] at this; cases this
  · exact hne rfl
  · obtain ⟨cs', z', he⟩ := row_block h hm
    rw [hx] at he; cases he
theorem edge_apart {w : World} {ab mb f kb hb pm : Nat} {L L' : List NumI} {v : Value} {mo : Bool} {H : List Ent} {mv : Nat} {k : Value} (hC : AccC w ab mb f k L) (hE : EdgeAt w kb hb pm v mo L' H mv) (hne : mb ≠ pm) :
    ab ∉ foot hb pm v ∧ mb ∉ foot hb pm v ∧ ab ≠ kb ∧ mb ≠ kb ∧ kb ∉ foot hb pm v := by
  obtain ⟨es, clock, hm⟩ := hC.map.isMap
  refine ⟨foot_cells hE.heap hC.acc (by decide) (by decide), foot_map hE.heap hm hne, ?_, ?_, foot_cells hE.heap hE.knd (by decide) (by decide)⟩
  · rintro rfl
    have := hC.acc; rw [hE.knd] at this; injection this with this; injection this with _ this; exact absurd this (by decide)
  · rintro rfl
    have := hE.knd; rw [hm] at this; cases this
theorem find_new {H : List Ent} {L : List NumI} {s : List UInt8} {t : Int} (h : InH entW H L) (hno : hasN L s t = false) : findE H (nameL s t) = none := by
  cases hf : findE H (nameL s t) with
  | none => rfl
  | some i =>
    obtain ⟨o, ho, e⟩ := (h.find _).1 i hf
    exact absurd (nameL_inj e) (hasN_false hno o ho)
set_option maxHeartbeats 4000000 in
set_option maxRecDepth 100000 in
theorem edge_add (kb hb pm : Nat) (v : Value) (H : List Ent) (mo : Bool) (mv : Nat) (s id : List UInt8) (t n : Int) (w : World) (hk : w.heap[kb]? = some (.cells #[.pointer (some ⟨hb, 0, none⟩)] 82 (0, 0))) (hH : HeapAt w hb pm v H mo mv)
    (hid : id.length ≤ 9223372036854775807) (hf : findE H id = none) (hL : (H.length + 1) * 24 ≤ 225179981352000) :
    Calls Tryz.prog 118 #[.pointer (some ⟨kb, 0, none⟩), strV id, .agg #[strV s, .int .i64 t, .int .i64 n]] w fun e w' => e = .returned (.tuple #[]) ∧ ∃ v', HeapTo w w' hb pm v v' (putH mo H (n, id)).1 mo (putH mo H (n, id)).2 := by
  have hb1 := below1 w (.cells #[strV s, .int .i64 t, .int .i64 n] 90)
  have kp := put_new hb pm v H mo mv n id (w.alloc (.cells #[strV s, .int .i64 t, .int .i64 n] 90)).drew (hH.below hb1.drew) hid hf hL
  have HB : Bx _ := ⟨hb1⟩
  have c0 := cells_at (show (w.alloc (.cells #[strV s, .int .i64 t, .int .i64 n] 90)).heap[kb]? = _ from (hb1.block kb (block_lt hk)).trans hk) 0 _ rfl
  obtain ⟨b0, b1, b2⟩ := box3 w (strV s) (.int .i64 t) (.int .i64 n) 90
  clear hk hH hid hf hL hb1
  go_enter Tryz.func118, Tryz.ntmps118
  go_wp2_with fail
  generalize (w.alloc (.cells #[strV s, .int .i64 t, .int .i64 n] 90)) = w1 at *
  go_region_with (go_at_call 121; refine kp.mono ?_; rintro e w2 ⟨rfl, v', hv⟩)
  all_goals (go_wp2_with fail; go_end0; exact ⟨rfl, v', hv.h, (Turned.ofBelow HB.out).drew.trans hv.t |>.more (by simp), hv.r.imp (fun h => h) (fun h g e => Nat.le_trans HB.out.size (h g e))⟩)
/-- .. as the invocation sees it -/
theorem m_edge_add (a : Addr) (w : World) : (method 375 78 (.pointer (some a)) "weir/acc.add").run Tryz.prog w = .ok (118, .pointer (some a)) w := by kernel_rfl
theorem n_edge_slot (a : Addr) (w : World) : (nilAhead 375 78 (.pointer (some a)) "weir/acc.slot").run Tryz.prog w = .ok (some false) w := by kernel_rfl
theorem m_edge_slot (a : Addr) (w : World) : (method 375 78 (.pointer (some a)) "weir/acc.slot").run Tryz.prog w = .ok (120, .pointer (some a)) w := by kernel_rfl
set_option maxHeartbeats 4000000 in
set_option maxRecDepth 100000 in
theorem aadd_known (ab mb f : Nat) (k : Value) (L : List NumI) (s : List UInt8) (t n : Int) (w : World) (hT : TabP w) (hC : AccC w ab mb f k L) (hno : hasN L s t = true) (hs : s.length ≤ 1048576) (ht : -9223372036854775808 ≤ t ∧ t ≤ 9223372036854775807) :
    Calls Tryz.prog 12 #[.pointer (some ⟨ab, 0, none⟩), strV s, .int .i64 t, .int .i64 n] w fun e w' => e = .returned (errV 5) ∧ Below w.heap.size w w' := by
  have kn := name_any s t w hs ht hT
  have HC : Bx _ := ⟨And.intro hC (And.intro hno (And.intro hs ht))⟩
  clear hC hno hs ht hT
  go_enter Tryz.func12, Tryz.ntmps12
  go_wp2_with fail
  refine kn.mono ?_
  rintro e w1 ⟨rfl, hb1⟩
  have H1 := HC.out.1.below hb1
  have hl := H1.look HC.out.2.2.1 HC.out.2.2.2.1 HC.out.2.2.2.2
  obtain ⟨n', _, hn'⟩ := inF_some HC.out.2.1
  rw [hn'] at hl
  simp only [Option.getD_some, Option.isSome_some, heldV] at hl
  have c1 := cells_at H1.acc 1 _ rfl
  have HB : Bx _ := ⟨hb1⟩
  clear hb1 H1 hn' kn HC
  generalize nameL s t = id at *
  go_wp2_with fail
  refine (fnew_any 5 _ (by decide)).mono ?_
  rintro e w2 ⟨rfl, rfl⟩
  go_wp2
  go_ret
  exact ⟨rfl, HB.out.trans ((below1 _ _).mono HB.out.size)⟩
theorem add_fin {w w2 w3 w4 : World} {ab mb f kb hb pm : Nat} {k : Value} {v v' : Value} {mo : Bool} {L L2 : List NumI} {H : List Ent} {mv mv' : Nat} (h2 : Below w.heap.size w w2) (h3 : Turned [mb] w2 w3) (hE : EdgeAt w3 kb hb pm v mo L H mv) (hA : AccC w3 ab mb f k L2)
    (p1 : ab ∉ foot hb pm v) (p2 : mb ∉ foot hb pm v) (p5 : kb ∉ foot hb pm v) (o : NumI) {e : Ent} (he : entW o = e) (hv : HeapTo w3.drew w4 hb pm v v' (putH mo H e).1 mo mv') :
    AccC w4 ab mb f k L2 ∧ (∃ v' H' mv', EdgeAt w4 kb hb pm v' mo (L ++ [o]) H' mv' ∧ (rowB v' = rowB v ∨ ∀ g, rowB v' = some g → w.heap.size ≤ g)) ∧ Turned (mb :: foot hb pm v) w w4 := by
  have t4 : Turned (foot hb pm v) w3 w4 := (Turned.refl _ w3).drew.trans hv.t
  subst he
  refine ⟨hA.kept t4 p1 p2, ⟨v', _, _, ⟨?_, hv.h, put_ok hE.ok _, hE.inh.put o⟩, hv.r.imp (fun h => h) (fun h g e => ?_)⟩, ?_⟩
  · rw [t4.block kb (block_lt hE.knd) p5]; exact hE.knd
  · have := h g e
    exact Nat.le_trans (Nat.le_trans h2.size h3.size) this
  · exact ((Turned.ofBelow h2).trans (h3.more (fun x hx => by simp at hx; subst hx; exact List.mem_cons_self ..))).trans (t4.more (fun x hx => List.mem_cons_of_mem _ hx))
set_option maxHeartbeats 8000000 in
set_option maxRecDepth 100000 in
theorem aadd_edge (ab mb kb hb pm f : Nat) (v : Value) (H : List Ent) (mo : Bool) (mv : Nat) (L : List NumI) (s : List UInt8) (t n : Int) (w : World) (hT : TabP w) (hC : AccC w ab mb f (edgeK kb) L) (hE : EdgeAt w kb hb pm v mo L H mv)
    (hne : mb ≠ pm) (hno : hasN L s t = false) (hs : s.length ≤ 1048576) (ht : -9223372036854775808 ≤ t ∧ t ≤ 9223372036854775807) (hL : L.length ≤ 1048576) :
    Calls Tryz.prog 12 #[.pointer (some ⟨ab, 0, none⟩), strV s, .int .i64 t, .int .i64 n] w fun e w' => e = .returned .nilIface ∧ AccC w' ab mb f (edgeK kb) (L ++ [(s, t, n)]) ∧
      (∃ v' H' mv', EdgeAt w' kb hb pm v' mo (L ++ [(s, t, n)]) H' mv' ∧ (rowB v' = rowB v ∨ ∀ g, rowB v' = some g → w.heap.size ≤ g)) ∧ Turned (mb :: foot hb pm v) w w' := by
  have kn := name_any s t w hs ht hT
  have HC : Bx _ := ⟨And.intro hC (And.intro hE (And.intro hno (And.intro hs (And.intro ht hL))))⟩
  have HN : Bx _ := ⟨And.intro hne (And.intro (find_new hE.inh hno) (inF_add (n := n) hno))⟩
  have hln := nameL_len (s := s) ht.1 ht.2
  have HI : Bx ((nameL s t).length ≤ 9223372036854775807 ∧ entW (s, t, n) = (n, nameL s t)) := ⟨by omega, rfl⟩
  clear hln hne
  clear hC hE hno hs ht hT hL
  go_enter Tryz.func12, Tryz.ntmps12
  go_wp2_with fail
  refine kn.mono ?_
  rintro e w1 ⟨rfl, hb1⟩
  have H1 := HC.out.1.below hb1
  have hl := H1.look HC.out.2.2.2.1 HC.out.2.2.2.2.1.1 HC.out.2.2.2.2.1.2
  rw [inF_none HC.out.2.2.1] at hl
  simp only [Option.getD_none, Option.isSome_none] at hl
  have c1 := cells_at H1.acc 1 _ rfl
  have hkey := keyN HC.out.2.2.2.1 HC.out.2.2.2.2.1.1 HC.out.2.2.2.2.1.2
  have HB : Bx _ := ⟨And.intro hb1 (And.intro H1 hkey)⟩
  clear hb1 H1 kn hkey
  generalize nameL s t = id at *
  have hb2 := below2 w1 (.cells #[.string ⟨#[]⟩, .int .i64 0, .int .i64 0] 90) (.cells #[strV s, .int .i64 t, .int .i64 n] 90)
  have q := box3 (w1.alloc (.cells #[.string ⟨#[]⟩, .int .i64 0, .int .i64 0] 90)) (strV s) (.int .i64 t) (.int .i64 n) 90
  have H2 : Bx (Below w1.heap.size w1 ((w1.alloc (.cells #[.string ⟨#[]⟩, .int .i64 0, .int .i64 0] 90)).alloc (.cells #[strV s, .int .i64 t, .int .i64 n] 90)) ∧ w1.heap.size + 1 < ((w1.alloc (.cells #[.string ⟨#[]⟩, .int .i64 0, .int .i64 0] 90)).alloc (.cells #[strV s, .int .i64 t, .int .i64 n] 90)).heap.size) := ⟨hb2, by simp⟩
  rw [show (w1.alloc (.cells #[.string ⟨#[]⟩, .int .i64 0, .int .i64 0] 90)).heap.size = w1.heap.size + 1 by simp] at q
  obtain ⟨b0, b1, b2⟩ := q
  clear hb2
  go_upto_region 8 with (fail)
  change Code.wp _ _ _ _ ((w1.alloc (.cells #[.string ⟨#[]⟩, .int .i64 0, .int .i64 0] 90)).alloc (.cells #[strV s, .int .i64 t, .int .i64 n] 90))
  generalize ((w1.alloc (.cells #[.string ⟨#[]⟩, .int .i64 0, .int .i64 0] 90)).alloc (.cells #[strV s, .int .i64 t, .int .i64 n] 90)) = w2 at *
  have HB2 : Bx (Below w.heap.size w w2) := ⟨HB.out.1.trans (H2.out.1.mono HB.out.1.size)⟩
  have hA2 := HB.out.2.1.below H2.out.1
  have hA2d : AccC w2.drew ab mb f (edgeK kb) L := hA2.below (Below.refl _ _).drew
  obtain ⟨w3, hst, hm3, ht3⟩ := hA2d.map.store lawS Tryz.underlying67 (by have := HC.out.2.2.2.2.2; unfold maxLen; omega) (.agg #[strV s, .int .i64 t, .int .i64 n]) HB.out.2.2
  have c12 := cells_at hA2.acc 1 _ rfl
  have HT3 : Bx (Turned [mb] w2 w3) := ⟨(Turned.drew (Turned.refl [mb] w2)).trans (Turned.ofGrown ht3.grown (fun x e => by injection e with e; subst e; simp))⟩
  have hE2 := (HC.out.2.1.below (HB2.out))
  obtain ⟨p1, p2, p3, p4, p5⟩ := edge_apart hA2 hE2 HN.out.1
  have hE3 : EdgeAt w3 kb hb pm v mo L H mv := hE2.kept HT3.out (by simp; exact fun e => p4 e.symm) (fun x hx => by simp at hx; subst hx; exact p2)
  have hA3 : AccC w3 ab mb f (edgeK kb) (L ++ [(s, t, n)]) := by
    refine ⟨?_, ?_, hA2.two.add HC.out.2.2.1, fun o ho => ?_⟩
    · rw [HT3.out.block ab (block_lt hA2.acc) (by simp; exact hA2.ne)]; exact hA2.acc
    · have := hm3.same (fun l => (HN.out.2.2 l).symm)
      simpa using this
    · rcases List.mem_append.1 ho with ho | ho
      · exact HC.out.1.fit o ho
      · rw [List.mem_singleton.1 ho]; exact ⟨HC.out.2.2.2.1, HC.out.2.2.2.2.1⟩
  have hmlt : mb < w1.heap.size := HB.out.2.1.map.lt
  have d0 := HT3.out.cell b0 (by simp; omega)
  have d1 := HT3.out.cell b1 (by simp; omega)
  have d2 := HT3.out.cell b2 (by simp; omega)
  have c32 := cells_at hA3.acc 2 _ rfl
  have ka := edge_add kb hb pm v H mo mv s id t n w3.drew hE3.knd (hE3.heap.below (Below.refl _ _).drew) HI.out.1 HN.out.2.1 (by have := hE3.inh.len hE3.heap.two; have := HC.out.2.2.2.2.2; omega)
  have hmt := fun w => m_edge_add ⟨kb, 0, none⟩ w
  have H3 : Bx _ := ⟨And.intro hE3 (And.intro hA3 (And.intro p1 (And.intro p2 p5)))⟩
  clear hA2 hA2d hm3 ht3 c1 hl hE2 hE3 hA3 hmlt p1 p2 p3 p4 p5
  go_region
  clear hst c12 b0 b1 b2
  generalize hw2 : w2.drew = w2d at *
  go_upto_region 9 with (fail)
  go_region_with (go_at_call 118; refine ka.mono ?_; rintro e w4 ⟨rfl, v', hv⟩)
  all_goals go_wp2
  all_goals go_ret
  all_goals exact ⟨rfl, add_fin HB2.out HT3.out H3.out.1 H3.out.2.1 H3.out.2.2.1 H3.out.2.2.2.1 H3.out.2.2.2.2 (s, t, n) HI.out.2 hv⟩
end Go.Proofs.YtaolkcbbkanhbaaGreatDoor
