/- The document's heap: Turn, Take. -/
import Derived.Test.YtlodgmmhaolmaaaDoorRfD
import Derived.Test.YtlodgmmhaolmaaaDoorHpI
set_option linter.unusedSimpArgs false
set_option linter.unusedVariables false
namespace Go.Proofs.YtlodgmmhaolmaaaDoor
open Go.RowKit
theorem own_rankr {w : World} {S g n cap i : Nat} {M : List Ent} {r : Int} (h : w.ownsRow S 27 2 (.slice (some ⟨g, 0, none⟩) n cap) n (entC M)) (hi : i < M.length) :
    (w.setCell ⟨g, i * 2, none⟩ (.int .i64 r)).ownsRow S 27 2 (.slice (some ⟨g, 0, none⟩) n cap) n (entC (M.set i (r, (atE M i).2))) := by
  have o2 := (h.stored (i * 2) (.int .i64 r)).1
  have hgr := entC_get M i hi
  have e1 : (entC M).set (i * 2) (.int .i64 r) = entC (M.set i (r, (atE M i).2)) := by
    rw [← entC_set M i (r, (atE M i).2)]
    symm
    apply List.ext_getElem?
    intro j
    rw [List.getElem?_set]
    split
    · rename_i h
      subst h
      rw [List.getElem?_set_ne (by omega), hgr.2]
      simp
      have := (List.getElem?_eq_some_iff.1 hgr.2).1
      omega
    · rfl
  rwa [e1] at o2
theorem own_put3 {w : World} {S g cap n i : Nat} {M : List Ent} (e : Ent) (h : w.ownsRow S 27 2 (.slice (some ⟨g, 0, none⟩) n cap) n (entC M)) :
    ((w.setCell ⟨g, i * 2, none⟩ (.int .i64 e.1)).setCell ⟨g, i * 2 + 1, none⟩ (strV e.2)).ownsRow S 27 2 (.slice (some ⟨g, 0, none⟩) n cap) n (entC (M.set i e)) := by
  have := ((h.stored (i * 2) (.int .i64 e.1)).1.stored (i * 2 + 1) (strV e.2)).1
  rwa [entC_set] at this
/-- the row has been written into, the slice is as it was -/
theorem RefAt.wrote {w w1 : World} {mb g cap N : Nat} {L M : List Ent} {mo : Bool} {mv : Nat} (h : RefAt w mb (.slice (some ⟨g, 0, none⟩) N cap) L mo mv) (h0 : 0 < cap) (ht : Turned [g] w w1) (ho : w1.ownsRow 0 27 2 (.slice (some ⟨g, 0, none⟩) N cap) N (entC M)) (hN : M.length = N) :
    RefTo w w1 mb (.slice (some ⟨g, 0, none⟩) N cap) (.slice (some ⟨g, 0, none⟩) N cap) M mo mv := by
  have hne := h.ne
  rw [rowB_pos h0] at hne
  have hgm : mb ∉ [g] := fun e => hne (by rw [List.mem_singleton] at e; rw [e])
  exact ⟨⟨(ht.block mb (block_lt h.blk) hgm).trans h.blk, RowE.mk ho hN.symm h0⟩, ht.more (fun x hx => by rw [List.mem_singleton] at hx; subst hx; simp [rfoot, rowB_pos h0]), Or.inl rfl⟩
theorem RefAt.moves0 {w : World} {mb : Nat} {v : Value} {L : List Ent} {mo : Bool} {mv : Nat} (h : RefAt w mb v L mo mv) : RefTo w (w.setCell ⟨mb, 2, none⟩ (.int .i64 0)) mb v v L mo 0 :=
  ⟨h.moved 0, (Turned.set mb 2 _).more (by simp [rfoot]), Or.inl rfl⟩
theorem mend_small (mo : Bool) (L : List Ent) (i : Nat) (hi : i < L.length) (h : L.length ≤ 1152921504606846976) : (mendH mo L i).2 ≤ 1152921504606846976 := by
  have h1 := mendH_moves mo L i hi
  have h2 : (mendH mo L i).2 < 2 ^ (mendH mo L i).2 := Nat.lt_two_pow_self
  omega
set_option maxHeartbeats 4000000 in
set_option maxRecDepth 100000 in
theorem rturn_none (mb : Nat) (v : Value) (L : List Ent) (mo : Bool) (mv : Nat) (s : List UInt8) (r : Int) (w : World) (h : RefAt w mb v L mo mv) (hf : findE L s = none) (hL : L.length ≤ 1152921504606846976) :
    Calls Tryd.prog 50 #[.pointer (some ⟨mb, 0, none⟩), strV s, .int .i64 r] w fun e w' => e = .returned (badV 4) ∧ Below w.heap.size w w' := by
  have hb := below1 w (.cells bad0 55)
  have kf := rfind_any mb v L mo mv s _ (h.below hb) hL
  rw [hf] at kf
  simp only [posI] at kf
  have kn := fun w => bnew_any 4 w
  clear h hf hL hb
  go_enter Tryd.func50, Tryd.ntmps50
  go_wp2_with (first | (go_at_call 44; refine kf.mono ?_; rintro e w' ⟨rfl, rfl⟩) | (go_at_call 46; refine (kn _).mono ?_; rintro e w' ⟨rfl, rfl⟩))
  all_goals exact bodyPost_ret (v := badV 4) (by simp [results, Tryd.results50, go_sem]) rfl ⟨rfl, below2 _ _ _⟩
set_option maxHeartbeats 4000000 in
set_option maxRecDepth 100000 in
theorem rturn_some (mb : Nat) (v : Value) (L : List Ent) (mo : Bool) (mv : Nat) (s : List UInt8) (r : Int) (w : World) (h : RefAt w mb v L mo mv) (i : Nat) (hf : findE L s = some i) (hL : L.length ≤ 1152921504606846976) :
    Calls Tryd.prog 50 #[.pointer (some ⟨mb, 0, none⟩), strV s, .int .i64 r] w fun e w' => e = .returned (badV 0) ∧ RefTo w w' mb v v (turnH mo L i r).1 mo (turnH mo L i r).2 := by
  have hi := (findE_some hf).1
  have hb := below1 w (.cells bad0 55)
  have h0 := h.below hb
  have hk := heap_alloc_new w (.cells bad0 55)
  have kf := rfind_any mb v L mo mv s _ h0 hL
  rw [hf] at kf
  simp only [posI] at kf
  have hi0 : ¬ ((i : Int) < 0) := by omega
  obtain ⟨g, cap, rfl, ho⟩ := h0.row.some (by omega)
  have hcap := own_cap ho
  have c0 := h0.cell0
  have ⟨d0, _⟩ := ent_cells ho rfl hi
  have t0 := ho.frozenAt (i * 2)
  have h1 := h0.wrote (by omega) (Turned.set g (i * 2) (.int .i64 r)) (own_rankr (r := r) ho hi) (by simp)
  have h2 := h1.on h1.h.moves0
  have c2 := h1.h.cell2
  have f2 := h1.h.free 2
  have km := rmend_any mb _ (L.set i (r, (atE L i).2)) mo i _ h2.h (by simpa using hi) (by simpa using hL) (mend_small mo _ i (by simpa using hi) (by simpa using hL))
  have HH := Bx.mk (And.intro h (And.intro hb (And.intro hk h2)))
  obtain ⟨N, hN⟩ : ∃ N, L.length = N := ⟨_, rfl⟩
  have HN := Bx.mk hN
  rw [hN] at c0 hi
  clear h h0 hb hk hf ho hcap h1 h2 hN
  go_enter Tryd.func50, Tryd.ntmps50
  go_wp2_with (go_at_call 44; refine kf.mono ?_; rintro e w' ⟨rfl, rfl⟩)
  refine km.mono ?_
  rintro e w5 ⟨rfl, h5, t5⟩
  have h6 := HH.out.2.2.2.on ⟨h5, t5, Or.inl rfl⟩
  have hRn : w.heap.size ∉ rfoot mb (.slice (some ⟨g, 0, none⟩) L.length cap) := fun hm => by
    have := HH.out.1.footLt _ hm
    omega
  have HBK := Bx.mk ((h6.t.block w.heap.size (block_lt HH.out.2.2.1) hRn).trans HH.out.2.2.1)
  have hbx := bad_box HBK.out (.int .i64 0) (.int .i64 0) (.int .i64 0) (.bool false) (.bool false)
  have HG := Bx.mk (And.intro hbx.1 ((h6.from HH.out.2.1).aside (Nat.le_refl _) hRn hbx.2))
  have z0 := cells_at HBK.out 0 _ rfl
  have z1 := cells_at HBK.out 1 _ rfl
  have z2 := cells_at HBK.out 2 _ rfl
  have z3 := cells_at HBK.out 3 _ rfl
  have z4 := cells_at HBK.out 4 _ rfl
  have y0 := cells_free HBK.out 0
  have y1 := cells_free HBK.out 1
  have y2 := cells_free HBK.out 2
  have y3 := cells_free HBK.out 3
  have y4 := cells_free HBK.out 4
  clear km h5 t5 h6 hRn hbx c0 d0 t0 c2 f2 kf
  go_wp2
  refine bodyPost_ret (results_bad rfl _ _ w.heap.size 0 0 0 false false rfl HG.out.1) rfl ⟨rfl, ?_⟩
  exact HG.out.2
end Go.Proofs.YtlodgmmhaolmaaaDoor
