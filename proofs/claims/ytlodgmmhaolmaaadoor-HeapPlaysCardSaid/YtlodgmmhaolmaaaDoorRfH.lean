/- The document's heap: Build. -/
import Derived.Test.YtlodgmmhaolmaaaDoorRfG
set_option linter.unusedSimpArgs false
set_option linter.unusedVariables false
namespace Go.Proofs.YtlodgmmhaolmaaaDoor
open Go.RowKit
theorem results_ptrbad {fn : Func} {u p : Tmp} (h : fn.results = #[.tmp u, .cell p 55]) (tmps : Array Value) (w : World) (R : Nat) (x0 : Value) (c a i : Int) (x y : Bool) (hu : tmps[u]?.getD undef = x0) (hp : tmps[p]?.getD undef = .pointer (some ⟨R, 0, none⟩))
    (hb : w.heap[R]? = some (.cells #[.int .i64 c, .int .i64 a, .int .i64 i, .bool x, .bool y] 55 (0, 0))) :
    (results fn tmps).run Tryd.prog w = .ok (.tuple #[x0, .agg #[.int .i64 c, .int .i64 a, .int .i64 i, .bool x, .bool y]]) w := by
  have z0 := cells_at hb 0 _ rfl
  have z1 := cells_at hb 1 _ rfl
  have z2 := cells_at hb 2 _ rfl
  have z3 := cells_at hb 3 _ rfl
  have z4 := cells_at hb 4 _ rfl
  simp [results, h, go_sem, hp, hu, z0, z1, z2, z3, z4]
/-- a heap of the document that is being built; told: the box at B -/
structure RBld (w wr : World) (B mb : Nat) (v : Value) (M : List Ent) (mo : Bool) (mv : Nat) : Prop where
  h : RefAt wr mb v M mo mv
  b : Below w.heap.size w wr
  f : ∀ x ∈ rfoot mb v, B < x
  box : wr.heap[B]? = some (.cells bad0 55 (0, 0))
  lo : w.heap.size ≤ B
theorem RBld.step {w wr w' : World} {B mb : Nat} {v : Value} {M : List Ent} {mo : Bool} {mv : Nat} (h : RBld w wr B mb v M mo mv) (hb : Below wr.heap.size wr w') : RBld w w' B mb v M mo mv :=
  ⟨h.h.below hb, h.b.trans (hb.mono h.b.size), h.f, (hb.block B (block_lt h.box)).trans h.box, h.lo⟩
theorem RBld.to {w wr w' : World} {B mb : Nat} {v v' : Value} {M M' : List Ent} {mo : Bool} {mv mv' : Nat} (h : RBld w wr B mb v M mo mv) (ht : RefTo wr w' mb v v' M' mo mv') : RBld w w' B mb v' M' mo mv' := by
  have hB := block_lt h.box
  exact ⟨ht.h, h.b.trans (ht.t.below (fun x hx => by have := h.f x hx; have := h.lo; omega) h.b.size), fun x hx => by
    rcases rfoot_step ht.r x hx with h1 | h1
    · exact h.f x h1
    · omega, (ht.t.block B hB (fun hm => by have := h.f B hm; omega)).trans h.box, h.lo⟩
set_option maxHeartbeats 8000000 in
set_option maxRecDepth 100000 in
theorem rbuild_any (mo : Bool) (A : Option Addr) (n cap : Nat) (L : List Ent) (w : World) (hr : EntRow w A n L) (hb24 : (n + 1) * 24 ≤ 225179981352000) :
    Calls Tryd.prog 21 #[.bool mo, .slice A n cap] w fun e w' =>
      (∃ k, k < n ∧ NoTwice (L.take k) ∧ findE (L.take k) (atE L k).2 ≠ none ∧ e = .returned (.tuple #[.pointer none, .agg #[.int .i64 5, .int .i64 0, .int .i64 k, .bool false, .bool true]]) ∧ Below w.heap.size w w') ∨
      (NoTwice L ∧ ∃ mb v, e = .returned (.tuple #[.pointer (some ⟨mb, 0, none⟩), badV 0]) ∧ RefAt w' mb v (bldH mo L).1 mo (bldH mo L).2 ∧ Below w.heap.size w w' ∧ ∀ x ∈ rfoot mb v, w.heap.size ≤ x) := by
  have hb1 := below1 w (.cells bad0 55)
  have hk := heap_alloc_new w (.cells bad0 55)
  have kn := rnew_any mo (w.alloc (.cells bad0 55))
  have HR := Bx.mk hr
  have HK := Bx.mk (And.intro hb1 hk)
  clear hr hb1 hk
  go_enter Tryd.func21, Tryd.ntmps21
  go_wp2_with fail
  refine kn.mono ?_
  rintro e w1 ⟨mb, rfl, h1, h2, h3⟩
  obtain ⟨B, hB⟩ : ∃ B, w.heap.size = B := ⟨_, rfl⟩
  have HB := Bx.mk hB
  have h0 : RBld w w1 B mb (.slice none 0 0) [] mo 0 := by
    refine ⟨h1, HK.out.1.trans (h2.mono (by simp)), ?_, ?_, by omega⟩
    · intro x hx
      simp only [rfoot, List.mem_cons, Option.mem_toList] at hx
      rcases hx with rfl | hx
      · simp at h3; omega
      · cases hx
    · rw [← hB]; exact (h2.block w.heap.size (by simp)).trans HK.out.2
  have H0 : Bx (RBld w w1 B mb (.slice none 0 0) (L.take 0) mo 0) := ⟨h0⟩
  simp only [hB]
  clear kn h1 h2 h3 h0 HK hB
  go_wp2_with fail
  go_loopw [7] (fun i wr => ∃ (k : Nat) (v : Value), i = .int .i64 k ∧ k ≤ n ∧ Bx (RBld w wr B mb v (L.take k) mo 0 ∧ NoTwice (L.take k))) (fun i _ => n - (intOf i).toNat)
  case atStart => exact ⟨0, _, rfl, by omega, ⟨H0.out, List.Pairwise.nil⟩⟩
  case round =>
    obtain ⟨k, v, rfl, hk, HI⟩ := hrel
    clear H0
    rename World => w0
    by_cases hlt : k < n
    · have hLn := HR.out.len
      obtain ⟨b, off, rfl, hrow⟩ := (HR.out.below HI.out.1.b).row (by omega)
      obtain ⟨p0, p1⟩ := hrow k hlt
      obtain ⟨r, hrr⟩ : ∃ x, (atE L k).1 = x := ⟨_, rfl⟩
      obtain ⟨s, hss⟩ : ∃ x, (atE L k).2 = x := ⟨_, rfl⟩
      have HRR : Bx (atE L k = (r, s)) := ⟨by rw [← hrr, ← hss]⟩
      rw [hrr] at p0
      rw [hss] at p1
      have hlk : (L.take k).length = k := by rw [List.length_take, hLn]; omega
      have kf := rfind_any mb v (L.take k) mo 0 s w0 HI.out.1.h (by omega)
      have HLK := Bx.mk (And.intro hlk hLn)
      clear hrow hrr hss hlk hLn
      cases hf : findE (L.take k) s with
      | some j =>
        rw [hf] at kf
        simp only [posI] at kf
        have hj0 : (0 : Int) ≤ j := by omega
        have HF := Bx.mk hf
        have kn5 := fun w => bnew_any 5 w
        have ki := fun w => rin_any k 5 w (by decide)
        clear hf
        go_wp2_with (first | (go_at_call 44; refine kf.mono ?_; rintro e w' ⟨rfl, rfl⟩) | (go_at_call 46; refine (kn5 _).mono ?_; rintro e w' ⟨rfl, rfl⟩) | (go_at_call 45; refine (ki _).mono ?_; rintro e w3 ⟨rfl, hb3⟩; have h3 := HI.out.1.step ((below1 _ _).trans (hb3.mono (by simp))); have E1 := Bx.mk h3.box; have z0 := cells_at E1.out 0 _ rfl; have z1 := cells_at E1.out 1 _ rfl; have z2 := cells_at E1.out 2 _ rfl; have z3 := cells_at E1.out 3 _ rfl; have z4 := cells_at E1.out 4 _ rfl; have y0 := cells_free E1.out 0; have y1 := cells_free E1.out 1; have y2 := cells_free E1.out 2; have y3 := cells_free E1.out 3; have y4 := cells_free E1.out 4; have hbx := bad_box h3.box (.int .i64 5) (.int .i64 0) (.int .i64 k) (.bool false) (.bool true); have HG := Bx.mk (And.intro hbx.1 (h3.b.trans (hbx.2.below (fun x hx => by rw [List.mem_singleton] at hx; subst hx; exact h3.lo) h3.b.size))); clear hbx h3 hb3))
        exact bodyPost_ret (results_ptrbad rfl _ _ B (.pointer none) 5 0 k false true rfl rfl HG.out.1) rfl (Or.inl ⟨k, hlt, HI.out.2, by rw [HRR.out, HF.out]; simp, rfl, HG.out.2⟩)
      | none =>
        rw [hf] at kf
        simp only [posI] at kf
        have HF := Bx.mk hf
        clear hf
        go_upto_region 7 with (go_at_call 44; refine kf.mono ?_; rintro e w' ⟨rfl, rfl⟩)
        rename World => w0
        clear kf
        obtain ⟨Ao, co, rfl, hcap⟩ := HI.out.1.h.row.form
        have d0 := HI.out.1.h.cell0
        rw [HLK.out.1] at d0
        clear hcap
        have HI2 : Bx (RBld w w0 B mb (.slice Ao k co) (L.take k) mo 0) := ⟨by have := HI.out.1; rwa [HLK.out.1] at this⟩
        have HNO := Bx.mk HI.out.2
        have HRo : Bx (∀ o, RowE (w0.drew.alloc o) (.slice Ao k co) (L.take k)) := ⟨fun o => HI2.out.h.row.kept (S := []) (Turned.ofBelow ((Below.refl _ _).drew.trans (below1 w0.drew o))) (by simp)⟩
        have HKA : Bx (∀ o w3, Turned (rowB (.slice Ao k co)).toList (w0.drew.alloc o) w3 → w3.cell? ⟨mb, 0, none⟩ = some (.slice Ao k co) ∧ w3.frozen? ⟨mb, 0, none⟩ = false) := ⟨fun o w3 hT => by
          have hl := block_lt HI2.out.h.blk
          have h2 : w3.heap[mb]? = _ := ((hT.block mb (by simp only [heap_push, Array.size_push]; exact Nat.lt_succ_of_lt hl) (fun e => HI2.out.h.ne (by simpa using e))).trans ((below1 w0.drew o).block mb hl)).trans HI2.out.h.blk
          exact ⟨cells_at h2 0 _ rfl, cells_free h2 0⟩⟩
        have hlt0 : mb < w0.heap.size := block_lt HI2.out.h.blk
        have hltB : b < w0.heap.size := cell_lt p0
        clear HI
        go_region_law (refine step_append_row rfl _ _ rfl (.slice Ao k co) (L.take k) k HLK.out.1 (r, s) (by simp [Act.eval, Act.put]) (HRo.out _) ⟨w0.heap.size, 0, none⟩ (by simp [Act.eval, Act.put]) (news_box _ _ _ _ (box_cells w0.drew r s _).1 (box_cells w0.drew r s _).2) (by omega) ?_; intro g cap' w3 hown hT hat; obtain ⟨c3', f3'⟩ := HKA.out _ _ hT)
        all_goals
          clear p0 p1 d0
          have hba : Below w0.heap.size w0 (w0.drew.alloc (.cells #[.int .i64 r, strV s] 27)) := (Below.refl _ _).drew.trans (below1 w0.drew _)
          have hTa : Turned (rowB (.slice Ao k co)).toList w0 w3 := (Turned.ofBelow hba).trans hT
          have h3 := HI2.out.to (HI2.out.h.app HLK.out.1 hTa hown (by rcases hat with e | e; (exact Or.inl e); (exact Or.inr (Nat.le_trans hba.size e))))
          have htk : L.take (k + 1) = L.take k ++ [(r, s)] := by rw [take_snoc (by rw [HLK.out.2]; exact hlt), HRR.out]
          have HN1 : Bx (RBld w (w3.setCell ⟨mb, 0, none⟩ (.slice (some ⟨g, 0, none⟩) (k + 1) cap')) B mb (.slice (some ⟨g, 0, none⟩) (k + 1) cap') (L.take (k + 1)) mo 0 ∧ NoTwice (L.take (k + 1))) := ⟨by rw [htk]; exact h3, by rw [htk]; exact noTwice_snoc HNO.out HF.out⟩
          clear hown hT hat hba hTa h3 htk c3' f3'
          generalize w3.setCell ⟨mb, 0, none⟩ (.slice (some ⟨g, 0, none⟩) (k + 1) cap') = w4 at *
          go_wp2
          exact ⟨⟨k + 1, _, by rw [Int.natCast_succ], by omega, HN1⟩, by simp only [intOf]; omega⟩
    · obtain rfl : k = n := by omega
      have hLn := HR.out.len
      have htk : L.take k = L := List.take_of_length_le (by omega)
      have hI := HI.out
      rw [htk] at hI
      have HX0 : Bx (RBld w w0 B mb v L mo 0 ∧ NoTwice L ∧ L.length = k) := ⟨hI.1, hI.2, hLn⟩
      clear hI htk hLn HI hlt hk
      obtain ⟨q, hq⟩ : ∃ q : Nat, k / 2 = q := ⟨_, rfl⟩
      have hqi : ((k : Int) / 2) = (q : Int) := by omega
      have hqj : ((k : Int).tdiv 2) = (q : Int) := by rw [Int.tdiv_eq_ediv_of_nonneg (by omega)]; exact hqi
      have hqk : q ≤ k := by omega
      have HQ := Bx.mk hq
      clear hq
      go_wp2_with fail
      go_loopw [8] (fun i w' => ∃ (c : Nat) (L' : List Ent) (mv' : Nat), i = .int .i64 ((c : Int) - 1) ∧ c ≤ q ∧ Bx (RBld w w' B mb v L' mo mv' ∧ bldF mo c (L', mv') = bldH mo L ∧ L'.length = k)) (fun i _ => ((intOf i) + 1).toNat)
      case atStart => exact ⟨q, L, 0, rfl, Nat.le_refl _, ⟨HX0.out.1, by unfold bldH; rw [HX0.out.2.2, HQ.out], HX0.out.2.2⟩⟩
      case round =>
        obtain ⟨c, L', mv', rfl, hc, HX⟩ := hrel
        cases c with
        | zero =>
          have HZ : Bx ((L', mv') = bldH mo L) := ⟨HX.out.2.1⟩
          have h3 := HX.out.1
          rename World => w5
          have E1 := Bx.mk h3.box
          have z0 := cells_at E1.out 0 _ rfl
          have z1 := cells_at E1.out 1 _ rfl
          have z2 := cells_at E1.out 2 _ rfl
          have z3 := cells_at E1.out 3 _ rfl
          have z4 := cells_at E1.out 4 _ rfl
          have y0 := cells_free E1.out 0
          have y1 := cells_free E1.out 1
          have y2 := cells_free E1.out 2
          have y3 := cells_free E1.out 3
          have y4 := cells_free E1.out 4
          have hbx := bad_box h3.box (.int .i64 0) (.int .i64 0) (.int .i64 0) (.bool false) (.bool false)
          have hBn : B ∉ rfoot mb v := fun hm => by have := h3.f B hm; omega
          have HG := Bx.mk (And.intro hbx.1 (And.intro (h3.h.kept hbx.2 (fun x hx => by rw [List.mem_singleton] at hx; subst hx; exact hBn)) (And.intro (h3.b.trans (hbx.2.below (fun x hx => by rw [List.mem_singleton] at hx; subst hx; exact h3.lo) h3.b.size)) (show ∀ x ∈ rfoot mb v, w.heap.size ≤ x from fun x hx => by have := h3.f x hx; have := h3.lo; omega))))
          clear hbx hBn h3 HX
          go_wp2
          refine bodyPost_ret (results_ptrbad rfl _ _ B (.pointer (some ⟨mb, 0, none⟩)) 0 0 0 false false rfl rfl HG.out.1) rfl (Or.inr ⟨HX0.out.2.1, mb, v, rfl, ?_, HG.out.2.2.1, HG.out.2.2.2⟩)
          rw [← HZ.out]
          exact HG.out.2.1
        | succ c =>
          have hz := HX.out.2.1
          rw [bldF_succ] at hz
          have hm : mv' + (downH mo L' c).2 ≤ 1152921504606846976 := by
            have h1 := bldF_ge mo c ((downH mo L' c).1, mv' + (downH mo L' c).2)
            rw [hz] at h1
            have h2 := bldH_moves mo L
            have h3 := HX0.out.2.2
            simp only at h1
            omega
          have kd := rdown_any mb v L' mo mv' c _ HX.out.1.h (by rw [HX.out.2.2]; omega) (by rw [HX.out.2.2]; omega) hm
          have HZ : Bx _ := ⟨hz⟩
          have e : (((c + 1 : Nat) : Int) - 1) = (c : Int) := by omega
          rw [e]
          clear hz hm
          go_wp2_with fail
          refine kd.mono ?_
          rintro e w5 ⟨rfl, h5, t5⟩
          have HY : Bx (RBld w w5 B mb v (downH mo L' c).1 mo (mv' + (downH mo L' c).2) ∧ bldF mo c ((downH mo L' c).1, mv' + (downH mo L' c).2) = bldH mo L ∧ (downH mo L' c).1.length = k) := ⟨HX.out.1.to ⟨h5, t5, Or.inl rfl⟩, HZ.out, by rw [downH_len]; exact HX.out.2.2⟩
          clear kd h5 t5 HX
          go_wp2_with fail
          exact ⟨⟨c, _, _, rfl, by omega, HY⟩, by simp only [intOf]; omega⟩
end Go.Proofs.YtlodgmmhaolmaaaDoor
