/- Verify: truths: not, and, slices.Clone, behind, together. Verify: together, come (Dead's closure). Verify: what comes to one place (verify.Dead$1). -/
import Derived.Test.YtbcajmkmadgbhaaGreatDoorVrI
import Derived.Test.YtbcajmkmadgbhaaGreatDoorVrW
import Derived.Test.YtbcajmkmadgbhaaGreatDoorVrDp
import Derived.StillTailTactics
set_option linter.unusedSimpArgs false
set_option linter.unusedVariables false
namespace Go.Proofs.YtbcajmkmadgbhaaGreatDoor
section
open Go.RowKit
theorem wrap_id_i64 (e : Nat) (h : (e : Int) ≤ 9223372036854775807) : IntKind.i64.wrap (e : Int) = (e : Int) := by
  unfold IntKind.wrap
  simp [IntKind.bits, IntKind.signed]
  omega
theorem beq_lit (t : Int) (h : t = 0 ∨ t = 1 ∨ t = 2) : True := trivial
theorem tnot_any (t : Int) (w : World) (ht : t = 0 ∨ t = 1 ∨ t = 2) : Calls Tryz.prog 30 #[.int .i64 t] w fun e w' => e = .returned (.int .i64 (notT t)) ∧ w' = w := by
  rcases ht with rfl | rfl | rfl <;>
  · go_enter Tryz.func30, Tryz.ntmps30
    go_wp2
    go_ret
    exact ⟨rfl, rfl⟩
theorem tand_any (t u : Int) (w : World) (ht : t = 0 ∨ t = 1 ∨ t = 2) (hu : u = 0 ∨ u = 1 ∨ u = 2) : Calls Tryz.prog 82 #[.int .i64 t, .int .i64 u] w fun e w' => e = .returned (.int .i64 (andT t u)) ∧ w' = w := by
  rcases ht with rfl | rfl | rfl <;> rcases hu with rfl | rfl | rfl <;>
  · go_enter Tryz.func82, Tryz.ntmps82
    go_wp2
    go_ret
    exact ⟨rfl, rfl⟩
theorem flat_int (l : List Int) : l.flatMap (fun z : Int => [Value.int .i64 z]) = intC l := by
  induction l with
  | nil => rfl
  | cons x r ih => rw [List.flatMap_cons, ih]; rfl
theorem intC_at' {l : List Int} {i : Nat} (h : i < l.length) : (intC l)[i]? = some (.int .i64 (l.getD i 0)) := by
  unfold intC
  rw [List.getElem?_map, List.getD_eq_getElem?_getD, List.getElem?_eq_getElem h]; rfl
theorem intC_set' (l : List Int) (i : Nat) (v : Int) : (intC l).set i (.int .i64 v) = intC (l.set i v) := by unfold intC; rw [List.map_set]
theorem one_int : ∀ z : Int, ∀ u ∈ [Value.int .i64 z], u.oneCell' = true := fun z u hu => oneI z u hu
theorem below_own {w w1 : World} {T : TypeId} {n c : Nat} (hg : (w.alloc (.cells #[] T)).grownBy w1 (Value.slice (some ⟨w.heap.size, 0, none⟩) n c).ownBlock) : Below w.heap.size w w1 := by
  refine belowOwn (below1 _ _) hg (fun g e => ?_) (below1 _ _).size
  have e1 : w.heap.size = g := by simpa [Value.ownBlock] using e
  omega
set_option maxHeartbeats 4000000 in
set_option maxRecDepth 100000 in
theorem tclone_any (A : Option Addr) (l : List Int) (c : Nat) (w : World) (hr : I64L w A l) (hl : l.length ≤ 1048576) :
    Calls Tryz.prog 81 #[.slice A l.length c] w fun e w' => ∃ v, e = .returned v ∧ w'.ownsRow w.heap.size 95 1 v l.length (intC l) ∧ Below w.heap.size w w' := by
  obtain ⟨i0, hi, hiz, hi1, hi2⟩ := info_parts (show (Tryz.prog.info? 95).map (fun i => (i.zero, i.size, i.bytes)) = some (some (.int .i64 0), 1, 8) by kernel_rfl)
  have HI0 : Bx (Tryz.prog.info? 95 = some i0 ∧ i0.zero = some (.int .i64 0) ∧ i0.size = 1 ∧ i0.bytes = 8) := ⟨hi, hiz, hi1, hi2⟩
  have hn := fun w => Lib.run_eql_slice_nil (P := Tryz.prog) w 88 95 A l.length c 0 0 Tryz.underlying88
  clear hi hiz hi1 hi2
  cases A with
  | none =>
    have hz : l = [] := by
      cases l with
      | nil => rfl
      | cons x r => obtain ⟨b, off, e, _⟩ := hr.row (by simp); cases e
    subst hz
    clear hr
    simp only [List.length_nil] at hn

    go_enter Tryz.func81, Tryz.ntmps81
    go_wp2
    go_ret
    exact ⟨_, rfl, World.ownsRow_nil _ _ _ _, Below.refl _ _⟩
  | some ad =>
    have HE : Bx (I64L (w.alloc (.cells #[] 95)) (some ad) l ∧ (w.alloc (.cells #[] 95)).ownsRow w.heap.size 95 1 (.slice (some ⟨w.heap.size, 0, none⟩) 0 0) 0 []) := ⟨RowL.below hr (below1 _ _), World.ownsRow_lit w #[] 0 (Nat.le_refl _) (by unfold maxLen; omega) (by simp)⟩
    clear hr
    go_enter Tryz.func81, Tryz.ntmps81
    go_wp2_with (first | (at_builtin; refine wpList_app_row (enc := fun z : Int => [Value.int .i64 z]) _ rfl _ _ 88 rfl w.heap.size 95 i0 (.int .i64 0) 1 8 Tryz.underlying88 HI0.out.1 HI0.out.2.1 HI0.out.2.2.1 HI0.out.2.2.2 rfl (by decide) (.slice (some ⟨w.heap.size, 0, none⟩) 0 0) 0 [] rfl HE.out.2 (some ad) l c rfl (fun x => rfl) HE.out.1 one_int (by unfold maxLen; omega) (by omega) (below1 _ _).size ?_; intro v1 w1 hown1 hg1; have HG1 : Bx (w1.ownsRow w.heap.size 95 1 v1 l.length (intC l) ∧ Below w.heap.size w w1) := ⟨by rw [← flat_int]; simpa using hown1, below_own hg1⟩; clear hown1 hg1) | fail)
    go_ret
    exact ⟨_, rfl, HG1.out.1, HG1.out.2⟩
/-- a new row, as it is handed back -/
def NewT (w' : World) (S : Nat) (v : Value) (l : List Int) : Prop := ∃ A c, v = .slice A l.length c ∧ I64L w' A l ∧ ∀ b off, A = some ⟨b, off, none⟩ → S ≤ b
theorem row_new {w' : World} {S BB : Nat} {v : Value} {l : List Int} (hb : S ≤ BB) (h : w'.ownsRow BB 95 1 v l.length (intC l)) : NewT w' S v l := by
  rw [← flat_int] at h
  obtain ⟨A, c, rfl, hr, hn⟩ := RowL.ofOwn (enc := fun z : Int => [Value.int .i64 z]) (by decide) (fun x => rfl) h
  exact ⟨A, c, rfl, hr, fun b off e => Nat.le_trans hb (hn b off e)⟩
theorem row_take {w' : World} {S BB k g cp n : Nat} {l : List Int} (hb : S ≤ BB) (h : w'.ownsRow BB 95 1 (.slice (some ⟨g, 0, none⟩) n cp) n (intC l)) (hk : k ≤ l.length) {cp' : Nat} (hn : (l.take k).length = k) : NewT w' S (.slice (some ⟨g, 0, none⟩) k cp') (l.take k) := by
  have hlen : l.length = n := by have := h.1; rw [Nat.mul_one] at this; rw [← this]; unfold intC; rw [List.length_map]
  subst hlen
  obtain ⟨A, c, e, hr, hnew⟩ := row_new hb h
  injection e with e1 e2 e3
  refine ⟨some ⟨g, 0, none⟩, cp', by rw [hn], ⟨fun hp => ?_, by have := hr.n; omega⟩, fun b off e => hnew b off (by rw [← e1]; exact e)⟩
  rw [← e1] at hr
  obtain ⟨b, off, e, hrow⟩ := hr.row (by omega)
  refine ⟨b, off, e, fun i x hx j v hj => hrow i x ?_ j v hj⟩
  rw [List.getElem?_take] at hx
  split at hx
  · exact hx
  · cases hx
theorem own_some {w : World} {base : Nat} {v : Value} {n : Nat} {xs : List Value} (h : w.ownsRow base 95 1 v n xs) (hn : 0 < n) : ∃ g cp, v = .slice (some ⟨g, 0, none⟩) n cp ∧ n ≤ cp := by
  obtain ⟨_, ⟨_, h0⟩ | ⟨M, cap, cur, rfl, _, _, hnc, _⟩⟩ := h
  · omega
  · exact ⟨_, _, rfl, hnc⟩
/-- truths are three -/
def Thr (l : List Int) : Prop := ∀ t ∈ l, t = 0 ∨ t = 1 ∨ t = 2
theorem Thr.get {l : List Int} (h : Thr l) (j : Nat) : l.getD j 0 = 0 ∨ l.getD j 0 = 1 ∨ l.getD j 0 = 2 := by
  rw [List.getD_eq_getElem?_getD]
  cases hg : l[j]? with
  | none => exact Or.inl rfl
  | some v => exact h v (List.mem_of_getElem? hg)
theorem notT_thr (t : Int) : notT t = 0 ∨ notT t = 1 ∨ notT t = 2 := by
  unfold notT
  repeat' split
  all_goals simp
theorem andT_thr (t u : Int) : andT t u = 0 ∨ andT t u = 1 ∨ andT t u = 2 := by
  unfold andT
  repeat' split
  all_goals simp
theorem Thr.set {l : List Int} (h : Thr l) (k : Nat) {x : Int} (hx : x = 0 ∨ x = 1 ∨ x = 2) : Thr (l.set k x) := by
  intro t ht
  rcases List.mem_or_eq_of_mem_set ht with h1 | h1
  · exact h t h1
  · rw [h1]; exact hx
theorem Thr.take {l : List Int} (h : Thr l) (k : Nat) : Thr (l.take k) := fun t ht => h t (List.mem_of_mem_take ht)
theorem Thr.snoc {l : List Int} (h : Thr l) {x : Int} (hx : x = 0 ∨ x = 1 ∨ x = 2) : Thr (l ++ [x]) := fun t ht => by
  rcases List.mem_append.1 ht with h1 | h1
  · exact h t h1
  · simp at h1; rw [h1]; exact hx
theorem behT_thr {c : Nat} {l : List Int} (h : Thr l) : Thr (behT c l) := by
  unfold behT
  repeat' split
  · exact h.snoc (by simp)
  · exact h.snoc (by simp)
  · exact h.snoc (by simp)
  · exact h.set _ (notT_thr _)
  · exact (h.set _ (andT_thr _ _)).take _
  · exact (h.set _ (notT_thr _)).take _
  · exact h.take _
  · exact h
set_option maxHeartbeats 8000000 in
set_option maxRecDepth 100000 in
theorem behind_any (c : Nat) (ia ib : Int) (A : Option Addr) (s : List Int) (cap : Nat) (w : World) (hr : I64L w A s) (hs : s.length ≤ 1000) (ht : Thr s) (hc1 : 1 ≤ c) (hc2 : c ≤ 13) (htk : takesC c ≤ (s.length : Int)) :
    Calls Tryz.prog 29 #[.agg #[.int .u8 (c : Int), .int .i64 ia, .int .i64 ib], .slice A s.length cap] w fun e w' => ∃ v, e = .returned v ∧ NewT w' w.heap.size v (behT c s) ∧ Below w.heap.size w w' := by
  obtain ⟨i0, hi, hiz, hi1, hi2⟩ := info_parts (show (Tryz.prog.info? 95).map (fun i => (i.zero, i.size, i.bytes)) = some (some (.int .i64 0), 1, 8) by kernel_rfl)
  have HI0 : Bx (Tryz.prog.info? 95 = some i0 ∧ i0.zero = some (.int .i64 0) ∧ i0.size = 1 ∧ i0.bytes = 8) := ⟨hi, hiz, hi1, hi2⟩
  have HT : Bx _ := ⟨And.intro ht htk⟩
  have HR1 : Bx _ := ⟨And.intro (RowL.below hr (below1 w (.cells #[.int .u8 (c : Int), .int .i64 ia, .int .i64 ib] 94))) (And.intro (CB.new w #[.int .u8 (c : Int), .int .i64 ia, .int .i64 ib] 94) (below1 w (.cells #[.int .u8 (c : Int), .int .i64 ia, .int .i64 ib] 94)))⟩
  clear hi hiz hi1 hi2 hr ht
  go_enter Tryz.func29, Tryz.ntmps29
  go_upto_region 1 with (fail)
  generalize (w.alloc (.cells #[.int .u8 (c : Int), .int .i64 ia, .int .i64 ib] 94)) = w1 at *
  go_wp2_with fail
  refine (tclone_any A s cap w1 HR1.out.1 (by omega)).mono ?_
  rintro e w2 ⟨v, rfl, hown, hb⟩
  obtain ⟨BB, hBB⟩ : ∃ BB, BB = w1.heap.size := ⟨_, rfl⟩
  rw [← hBB] at hown
  have HO : Bx (w2.ownsRow BB 95 1 v s.length (intC s) ∧ Below w.heap.size w w2 ∧ w.heap.size ≤ BB ∧ BB ≤ w2.heap.size) := ⟨hown, HR1.out.2.2.trans (hb.mono HR1.out.2.2.size), by rw [hBB]; exact HR1.out.2.2.size, by rw [hBB]; exact hb.size⟩
  have n0 := (HR1.out.2.1.below hb).at 0 _ rfl
  obtain ⟨A2, c2, hv, _, _⟩ := row_new (Nat.le_refl _) hown
  subst hv
  clear hown hb HR1 hBB
  have hcs : c = 1 ∨ c = 2 ∨ c = 3 ∨ c = 4 ∨ c = 5 ∨ c = 6 ∨ c = 7 ∨ c = 8 ∨ c = 9 ∨ c = 10 ∨ c = 11 ∨ c = 12 ∨ c = 13 := by omega
  rcases hcs with rfl | rfl | rfl | rfl | rfl | rfl | rfl | rfl | rfl | rfl | rfl | rfl | rfl
  · have HB2 : Bx (behT 1 s = s ++ [1]) := ⟨rfl⟩
    go_wp2_with (first | (at_builtin; refine wpList_append_own _ rfl _ _ 88 rfl BB 95 i0 (.int .i64 0) 1 8 Tryz.underlying88 HI0.out.1 HI0.out.2.1 HI0.out.2.2.1 HI0.out.2.2.2 rfl (by decide) (.slice A2 s.length c2) s.length (intC s) rfl (HO.out.1.alloc _) ⟨w2.heap.size, 0, none⟩ 1 1 [.int .i64 1] rfl rfl (newsI w2 _ _) (oneI _) (by unfold maxLen; omega) (by omega) (Nat.le_trans HO.out.2.2.2 (below1 _ _).size) ?_; intro v3 w3 hown hg _; have HF : Bx (w3.ownsRow BB 95 1 v3 (behT 1 s).length (intC (behT 1 s)) ∧ Below w.heap.size w w3) := ⟨by rw [HB2.out, List.length_append, intC_snoc]; exact hown, belowOwn (HO.out.2.1.alloc (Nat.le_trans HO.out.2.2.1 HO.out.2.2.2) _) hg (fun g e => Nat.le_trans HO.out.2.2.1 (HO.out.1.lt g e).1) (Nat.le_trans (Nat.le_trans HO.out.2.2.1 HO.out.2.2.2) (below1 _ _).size)⟩; clear hown hg) | fail)
    go_ret
    exact ⟨_, rfl, row_new HO.out.2.2.1 HF.out.1, HF.out.2⟩
  · have HB2 : Bx (behT 2 s = s ++ [2]) := ⟨rfl⟩
    go_wp2_with (first | (at_builtin; refine wpList_append_own _ rfl _ _ 88 rfl BB 95 i0 (.int .i64 0) 1 8 Tryz.underlying88 HI0.out.1 HI0.out.2.1 HI0.out.2.2.1 HI0.out.2.2.2 rfl (by decide) (.slice A2 s.length c2) s.length (intC s) rfl (HO.out.1.alloc _) ⟨w2.heap.size, 0, none⟩ 1 1 [.int .i64 2] rfl rfl (newsI w2 _ _) (oneI _) (by unfold maxLen; omega) (by omega) (Nat.le_trans HO.out.2.2.2 (below1 _ _).size) ?_; intro v3 w3 hown hg _; have HF : Bx (w3.ownsRow BB 95 1 v3 (behT 2 s).length (intC (behT 2 s)) ∧ Below w.heap.size w w3) := ⟨by rw [HB2.out, List.length_append, intC_snoc]; exact hown, belowOwn (HO.out.2.1.alloc (Nat.le_trans HO.out.2.2.1 HO.out.2.2.2) _) hg (fun g e => Nat.le_trans HO.out.2.2.1 (HO.out.1.lt g e).1) (Nat.le_trans (Nat.le_trans HO.out.2.2.1 HO.out.2.2.2) (below1 _ _).size)⟩; clear hown hg) | fail)
    go_ret
    exact ⟨_, rfl, row_new HO.out.2.2.1 HF.out.1, HF.out.2⟩
  · have HB2 : Bx (behT 3 s = s ++ [0]) := ⟨rfl⟩
    go_wp2_with (first | (at_builtin; refine wpList_append_own _ rfl _ _ 88 rfl BB 95 i0 (.int .i64 0) 1 8 Tryz.underlying88 HI0.out.1 HI0.out.2.1 HI0.out.2.2.1 HI0.out.2.2.2 rfl (by decide) (.slice A2 s.length c2) s.length (intC s) rfl (HO.out.1.alloc _) ⟨w2.heap.size, 0, none⟩ 1 1 [.int .i64 0] rfl rfl (newsI w2 _ _) (oneI _) (by unfold maxLen; omega) (by omega) (Nat.le_trans HO.out.2.2.2 (below1 _ _).size) ?_; intro v3 w3 hown hg _; have HF : Bx (w3.ownsRow BB 95 1 v3 (behT 3 s).length (intC (behT 3 s)) ∧ Below w.heap.size w w3) := ⟨by rw [HB2.out, List.length_append, intC_snoc]; exact hown, belowOwn (HO.out.2.1.alloc (Nat.le_trans HO.out.2.2.1 HO.out.2.2.2) _) hg (fun g e => Nat.le_trans HO.out.2.2.1 (HO.out.1.lt g e).1) (Nat.le_trans (Nat.le_trans HO.out.2.2.1 HO.out.2.2.2) (below1 _ _).size)⟩; clear hown hg) | fail)
    go_ret
    exact ⟨_, rfl, row_new HO.out.2.2.1 HF.out.1, HF.out.2⟩
  · have HB2 : Bx (behT 4 s = s ++ [0]) := ⟨rfl⟩
    go_wp2_with (first | (at_builtin; refine wpList_append_own _ rfl _ _ 88 rfl BB 95 i0 (.int .i64 0) 1 8 Tryz.underlying88 HI0.out.1 HI0.out.2.1 HI0.out.2.2.1 HI0.out.2.2.2 rfl (by decide) (.slice A2 s.length c2) s.length (intC s) rfl (HO.out.1.alloc _) ⟨w2.heap.size, 0, none⟩ 1 1 [.int .i64 0] rfl rfl (newsI w2 _ _) (oneI _) (by unfold maxLen; omega) (by omega) (Nat.le_trans HO.out.2.2.2 (below1 _ _).size) ?_; intro v3 w3 hown hg _; have HF : Bx (w3.ownsRow BB 95 1 v3 (behT 4 s).length (intC (behT 4 s)) ∧ Below w.heap.size w w3) := ⟨by rw [HB2.out, List.length_append, intC_snoc]; exact hown, belowOwn (HO.out.2.1.alloc (Nat.le_trans HO.out.2.2.1 HO.out.2.2.2) _) hg (fun g e => Nat.le_trans HO.out.2.2.1 (HO.out.1.lt g e).1) (Nat.le_trans (Nat.le_trans HO.out.2.2.1 HO.out.2.2.2) (below1 _ _).size)⟩; clear hown hg) | fail)
    go_ret
    exact ⟨_, rfl, row_new HO.out.2.2.1 HF.out.1, HF.out.2⟩
  · have HB2 : Bx (behT 5 s = s ++ [0]) := ⟨rfl⟩
    go_wp2_with (first | (at_builtin; refine wpList_append_own _ rfl _ _ 88 rfl BB 95 i0 (.int .i64 0) 1 8 Tryz.underlying88 HI0.out.1 HI0.out.2.1 HI0.out.2.2.1 HI0.out.2.2.2 rfl (by decide) (.slice A2 s.length c2) s.length (intC s) rfl (HO.out.1.alloc _) ⟨w2.heap.size, 0, none⟩ 1 1 [.int .i64 0] rfl rfl (newsI w2 _ _) (oneI _) (by unfold maxLen; omega) (by omega) (Nat.le_trans HO.out.2.2.2 (below1 _ _).size) ?_; intro v3 w3 hown hg _; have HF : Bx (w3.ownsRow BB 95 1 v3 (behT 5 s).length (intC (behT 5 s)) ∧ Below w.heap.size w w3) := ⟨by rw [HB2.out, List.length_append, intC_snoc]; exact hown, belowOwn (HO.out.2.1.alloc (Nat.le_trans HO.out.2.2.1 HO.out.2.2.2) _) hg (fun g e => Nat.le_trans HO.out.2.2.1 (HO.out.1.lt g e).1) (Nat.le_trans (Nat.le_trans HO.out.2.2.1 HO.out.2.2.2) (below1 _ _).size)⟩; clear hown hg) | fail)
    go_ret
    exact ⟨_, rfl, row_new HO.out.2.2.1 HF.out.1, HF.out.2⟩
  · have HB2 : Bx (behT 6 s = s ++ [0]) := ⟨rfl⟩
    go_wp2_with (first | (at_builtin; refine wpList_append_own _ rfl _ _ 88 rfl BB 95 i0 (.int .i64 0) 1 8 Tryz.underlying88 HI0.out.1 HI0.out.2.1 HI0.out.2.2.1 HI0.out.2.2.2 rfl (by decide) (.slice A2 s.length c2) s.length (intC s) rfl (HO.out.1.alloc _) ⟨w2.heap.size, 0, none⟩ 1 1 [.int .i64 0] rfl rfl (newsI w2 _ _) (oneI _) (by unfold maxLen; omega) (by omega) (Nat.le_trans HO.out.2.2.2 (below1 _ _).size) ?_; intro v3 w3 hown hg _; have HF : Bx (w3.ownsRow BB 95 1 v3 (behT 6 s).length (intC (behT 6 s)) ∧ Below w.heap.size w w3) := ⟨by rw [HB2.out, List.length_append, intC_snoc]; exact hown, belowOwn (HO.out.2.1.alloc (Nat.le_trans HO.out.2.2.1 HO.out.2.2.2) _) hg (fun g e => Nat.le_trans HO.out.2.2.1 (HO.out.1.lt g e).1) (Nat.le_trans (Nat.le_trans HO.out.2.2.1 HO.out.2.2.2) (below1 _ _).size)⟩; clear hown hg) | fail)
    go_ret
    exact ⟨_, rfl, row_new HO.out.2.2.1 HF.out.1, HF.out.2⟩
  · have htk := HT.out.2
    unfold takesC at htk
    simp at htk
    obtain ⟨g, cp, hv, hle⟩ := own_some HO.out.1 (by omega)
    injection hv with hv1 hv2 hv3
    subst hv1
    have hv4 : cp = c2 := hv3.symm
    subst hv4
    clear hv3
    clear hv2
    obtain ⟨x1, hx1⟩ : ∃ x, s.getD (s.length - 1) 0 = x := ⟨_, rfl⟩
    have ht1 : x1 = 0 ∨ x1 = 1 ∨ x1 = 2 := by rw [← hx1]; exact HT.out.1.get _
    obtain ⟨e1, he1⟩ : ∃ e, s.length - 1 = e := ⟨_, rfl⟩
    have hel1 : e1 < s.length := by omega
    have r1 : w2.cell? ⟨g, e1, none⟩ = some (.int .i64 x1) := by rw [HO.out.1.cellAt e1 (by omega), intC_at' hel1, ← hx1, he1]
    have HX1 : Bx (s.getD (s.length - 1) 0 = x1 ∧ s.length - 1 = e1) := ⟨hx1, he1⟩
    clear hx1 he1
    have f1 := HO.out.1.frozenAt e1
    have hs1 : (s.length : Int) - 1 = (e1 : Int) := by have := HX1.out.2; omega
    have hst := HO.out.1.stored e1 (.int .i64 (notT x1))
    rw [intC_set'] at hst
    have HF : Bx ((w2.setCell ⟨g, e1, none⟩ (.int .i64 (notT x1))).ownsRow BB 95 1 (.slice (some ⟨g, 0, none⟩) s.length cp) s.length (intC (s.set e1 (notT x1))) ∧ Below w.heap.size w (w2.setCell ⟨g, e1, none⟩ (.int .i64 (notT x1)))) := ⟨hst.1, HO.out.2.1.setCell (Nat.le_trans HO.out.2.2.1 (HO.out.1.lt g rfl).1) _⟩
    clear hst
    go_wp2_with fail
    refine (tnot_any x1 _ ht1).mono ?_
    rintro e w3 ⟨rfl, rfl⟩
    go_wp2_with fail
    go_ret
    refine ⟨_, rfl, ?_, HF.out.2⟩
    have e : behT 7 s = s.set e1 (notT x1) := by rw [← HX1.out.1, ← HX1.out.2]; rfl
    rw [e]
    exact row_new HO.out.2.2.1 (by rw [List.length_set]; exact HF.out.1)
  · have htk := HT.out.2
    unfold takesC at htk
    simp at htk
    obtain ⟨g, cp, hv, hle⟩ := own_some HO.out.1 (by omega)
    injection hv with hv1 hv2 hv3
    subst hv1
    have hv4 : cp = c2 := hv3.symm
    subst hv4
    clear hv3
    clear hv2
    obtain ⟨x1, hx1⟩ : ∃ x, s.getD (s.length - 2) 0 = x := ⟨_, rfl⟩
    have ht1 : x1 = 0 ∨ x1 = 1 ∨ x1 = 2 := by rw [← hx1]; exact HT.out.1.get _
    obtain ⟨e1, he1⟩ : ∃ e, s.length - 2 = e := ⟨_, rfl⟩
    have hel1 : e1 < s.length := by omega
    have r1 : w2.cell? ⟨g, e1, none⟩ = some (.int .i64 x1) := by rw [HO.out.1.cellAt e1 (by omega), intC_at' hel1, ← hx1, he1]
    have HX1 : Bx (s.getD (s.length - 2) 0 = x1 ∧ s.length - 2 = e1) := ⟨hx1, he1⟩
    clear hx1 he1
    obtain ⟨x2, hx2⟩ : ∃ x, s.getD (s.length - 1) 0 = x := ⟨_, rfl⟩
    have ht2 : x2 = 0 ∨ x2 = 1 ∨ x2 = 2 := by rw [← hx2]; exact HT.out.1.get _
    obtain ⟨e2, he2⟩ : ∃ e, s.length - 1 = e := ⟨_, rfl⟩
    have hel2 : e2 < s.length := by omega
    have r2 : w2.cell? ⟨g, e2, none⟩ = some (.int .i64 x2) := by rw [HO.out.1.cellAt e2 (by omega), intC_at' hel2, ← hx2, he2]
    have HX2 : Bx (s.getD (s.length - 1) 0 = x2 ∧ s.length - 1 = e2) := ⟨hx2, he2⟩
    clear hx2 he2
    have hs1 : (s.length : Int) - 1 = (e2 : Int) := by have := HX2.out.2; omega
    have hs2 : (e2 : Int) - 1 = (e1 : Int) := by have := HX2.out.2; have := HX1.out.2; omega
    have hcp : e2 ≤ cp := by omega
    have hw1 : IntKind.i64.wrap (e1 : Int) = (e1 : Int) := wrap_id_i64 e1 (by omega)
    have hi1 : (0 : Int) ≤ (e1 : Int) ∧ (e1 : Int) < (s.length : Int) := by omega
    have k1 := fun w => tand_any x1 x2 w ht1 ht2
    go_wp2_with fail
    go_still_tail 13, (by kernel_rfl)
    still_call (k1 _)
    repeat still_step
    refine wpStill_nil ?_
    change wpList _ _ _ _ _ w2.drew
    have HO3 : Bx (w2.drew.ownsRow BB 95 1 (.slice (some ⟨g, 0, none⟩) s.length cp) s.length (intC s) ∧ Below w.heap.size w w2.drew) := ⟨HO.out.1.kept (grownB ((Below.refl _ _).drew) none) (no_rowB _), HO.out.2.1.drew⟩
    clear r1 r2 k1
    generalize w2.drew = w3 at *
    have f1 := HO3.out.1.frozenAt e1
    have r1 : w3.cell? ⟨g, e1, none⟩ = some (.int .i64 x1) := by rw [HO3.out.1.cellAt e1 (by omega), intC_at' hel1, ← HX1.out.1, HX1.out.2]
    have hst := HO3.out.1.stored e1 (.int .i64 (andT x1 x2))
    rw [intC_set'] at hst
    have HF : Bx ((w3.setCell ⟨g, e1, none⟩ (.int .i64 (andT x1 x2))).ownsRow BB 95 1 (.slice (some ⟨g, 0, none⟩) s.length cp) s.length (intC (s.set e1 (andT x1 x2))) ∧ Below w.heap.size w (w3.setCell ⟨g, e1, none⟩ (.int .i64 (andT x1 x2)))) := ⟨hst.1, HO3.out.2.setCell (Nat.le_trans HO.out.2.2.1 (HO.out.1.lt g rfl).1) _⟩
    clear hst
    go_wp2_with fail
    go_ret
    refine ⟨_, rfl, ?_, HF.out.2⟩
    have e : behT 8 s = (s.set e1 (andT x1 x2)).take e2 := by rw [← HX1.out.1, ← HX1.out.2, ← HX2.out.1, ← HX2.out.2]; rfl
    rw [e]
    have hl : ((s.set e1 (andT x1 x2)).take e2).length = e2 := by rw [List.length_take, List.length_set]; omega
    exact row_take HO.out.2.2.1 HF.out.1 (by rw [List.length_set]; omega) hl
  · have htk := HT.out.2
    unfold takesC at htk
    simp at htk
    obtain ⟨g, cp, hv, hle⟩ := own_some HO.out.1 (by omega)
    injection hv with hv1 hv2 hv3
    subst hv1
    have hv4 : cp = c2 := hv3.symm
    subst hv4
    clear hv3
    clear hv2
    obtain ⟨x1, hx1⟩ : ∃ x, s.getD (s.length - 2) 0 = x := ⟨_, rfl⟩
    have ht1 : x1 = 0 ∨ x1 = 1 ∨ x1 = 2 := by rw [← hx1]; exact HT.out.1.get _
    obtain ⟨e1, he1⟩ : ∃ e, s.length - 2 = e := ⟨_, rfl⟩
    have hel1 : e1 < s.length := by omega
    have r1 : w2.cell? ⟨g, e1, none⟩ = some (.int .i64 x1) := by rw [HO.out.1.cellAt e1 (by omega), intC_at' hel1, ← hx1, he1]
    have HX1 : Bx (s.getD (s.length - 2) 0 = x1 ∧ s.length - 2 = e1) := ⟨hx1, he1⟩
    clear hx1 he1
    obtain ⟨x2, hx2⟩ : ∃ x, s.getD (s.length - 1) 0 = x := ⟨_, rfl⟩
    have ht2 : x2 = 0 ∨ x2 = 1 ∨ x2 = 2 := by rw [← hx2]; exact HT.out.1.get _
    obtain ⟨e2, he2⟩ : ∃ e, s.length - 1 = e := ⟨_, rfl⟩
    have hel2 : e2 < s.length := by omega
    have r2 : w2.cell? ⟨g, e2, none⟩ = some (.int .i64 x2) := by rw [HO.out.1.cellAt e2 (by omega), intC_at' hel2, ← hx2, he2]
    have HX2 : Bx (s.getD (s.length - 1) 0 = x2 ∧ s.length - 1 = e2) := ⟨hx2, he2⟩
    clear hx2 he2
    have hs1 : (s.length : Int) - 1 = (e2 : Int) := by have := HX2.out.2; omega
    have hs2 : (e2 : Int) - 1 = (e1 : Int) := by have := HX2.out.2; have := HX1.out.2; omega
    have hcp : e2 ≤ cp := by omega
    have hw1 : IntKind.i64.wrap (e1 : Int) = (e1 : Int) := wrap_id_i64 e1 (by omega)
    have hi1 : (0 : Int) ≤ (e1 : Int) ∧ (e1 : Int) < (s.length : Int) := by omega
    have k1 := fun w => tnot_any x1 w ht1
    have k2 := fun w => tnot_any x2 w ht2
    have k3 := fun w => tand_any (notT x1) (notT x2) w (notT_thr _) (notT_thr _)
    have k4 := fun w => tnot_any (andT (notT x1) (notT x2)) w (andT_thr _ _)
    go_wp2_with fail
    go_still_tail 16, (by kernel_rfl)
    still_call (k1 _)
    repeat still_step
    still_call (k2 _)
    repeat still_step
    still_call (k3 _)
    repeat still_step
    still_call (k4 _)
    repeat still_step
    refine wpStill_nil ?_
    change wpList _ _ _ _ _ w2.drew
    have HO3 : Bx (w2.drew.ownsRow BB 95 1 (.slice (some ⟨g, 0, none⟩) s.length cp) s.length (intC s) ∧ Below w.heap.size w w2.drew) := ⟨HO.out.1.kept (grownB ((Below.refl _ _).drew) none) (no_rowB _), HO.out.2.1.drew⟩
    clear r1 r2 k1 k2 k3 k4
    generalize w2.drew = w3 at *
    have f1 := HO3.out.1.frozenAt e1
    have r1 : w3.cell? ⟨g, e1, none⟩ = some (.int .i64 x1) := by rw [HO3.out.1.cellAt e1 (by omega), intC_at' hel1, ← HX1.out.1, HX1.out.2]
    have hst := HO3.out.1.stored e1 (.int .i64 (notT (andT (notT x1) (notT x2))))
    rw [intC_set'] at hst
    have HF : Bx ((w3.setCell ⟨g, e1, none⟩ (.int .i64 (notT (andT (notT x1) (notT x2))))).ownsRow BB 95 1 (.slice (some ⟨g, 0, none⟩) s.length cp) s.length (intC (s.set e1 (notT (andT (notT x1) (notT x2))))) ∧ Below w.heap.size w (w3.setCell ⟨g, e1, none⟩ (.int .i64 (notT (andT (notT x1) (notT x2)))))) := ⟨hst.1, HO3.out.2.setCell (Nat.le_trans HO.out.2.2.1 (HO.out.1.lt g rfl).1) _⟩
    clear hst
    go_wp2_with fail
    go_ret
    refine ⟨_, rfl, ?_, HF.out.2⟩
    have e : behT 9 s = (s.set e1 (notT (andT (notT x1) (notT x2)))).take e2 := by rw [← HX1.out.1, ← HX1.out.2, ← HX2.out.1, ← HX2.out.2]; rfl
    rw [e]
    have hl : ((s.set e1 (notT (andT (notT x1) (notT x2)))).take e2).length = e2 := by rw [List.length_take, List.length_set]; omega
    exact row_take HO.out.2.2.1 HF.out.1 (by rw [List.length_set]; omega) hl
  · go_wp2
    go_ret
    exact ⟨_, rfl, row_new HO.out.2.2.1 HO.out.1, HO.out.2.1⟩
  · go_wp2
    go_ret
    exact ⟨_, rfl, row_new HO.out.2.2.1 HO.out.1, HO.out.2.1⟩
  · have htk := HT.out.2
    unfold takesC at htk
    simp at htk
    obtain ⟨g, cp, hv, hle⟩ := own_some HO.out.1 (by omega)
    injection hv with hv1 hv2 hv3
    subst hv1
    have hv4 : cp = c2 := hv3.symm
    subst hv4
    clear hv3
    clear hv2
    obtain ⟨e2, he2⟩ : ∃ e, s.length - 1 = e := ⟨_, rfl⟩
    have hs1 : (s.length : Int) - 1 = (e2 : Int) := by omega
    have hcp : e2 ≤ cp := by omega
    have HX : Bx (s.length - 1 = e2) := ⟨he2⟩
    clear he2
    go_wp2
    go_ret
    refine ⟨_, rfl, ?_, HO.out.2.1⟩
    have e : behT 12 s = s.take e2 := by rw [← HX.out]; rfl
    rw [e]
    exact row_take HO.out.2.2.1 HO.out.1 (by have := HX.out; omega) (by rw [List.length_take]; have := HX.out; omega)
  · have htk := HT.out.2
    unfold takesC at htk
    simp at htk
    obtain ⟨g, cp, hv, hle⟩ := own_some HO.out.1 (by omega)
    injection hv with hv1 hv2 hv3
    subst hv1
    have hv4 : cp = c2 := hv3.symm
    subst hv4
    clear hv3
    clear hv2
    obtain ⟨e2, he2⟩ : ∃ e, s.length - 1 = e := ⟨_, rfl⟩
    have hs1 : (s.length : Int) - 1 = (e2 : Int) := by omega
    have hcp : e2 ≤ cp := by omega
    have HX : Bx (s.length - 1 = e2) := ⟨he2⟩
    clear he2
    go_wp2
    go_ret
    refine ⟨_, rfl, ?_, HO.out.2.1⟩
    have e : behT 13 s = s.take e2 := by rw [← HX.out]; rfl
    rw [e]
    exact row_take HO.out.2.2.1 HO.out.1 (by have := HX.out; omega) (by rw [List.length_take]; have := HX.out; omega)
end
section
open Go.RowKit
open Go.Maps (Keyed)
/-- what stands at i behind k rounds of together -/
def togAt (a b : List Int) (k i : Nat) : Int := if i < k then (if a.getD i 0 = b.getD i 0 then a.getD i 0 else 0) else a.getD i 0
theorem togT_len (a b : List Int) : (togT a b).length = a.length := by unfold togT; simp
theorem togT_thr {a b : List Int} (h : Thr a) : Thr (togT a b) := by
  intro t ht
  unfold togT at ht
  obtain ⟨i, _, rfl⟩ := List.mem_map.1 ht
  split
  · exact h.get i
  · exact Or.inl rfl
theorem tog_end {a b l : List Int} (hl : l.length = a.length) (h : ∀ i, i < a.length → l[i]? = some (togAt a b a.length i)) : l = togT a b := by
  apply List.ext_getElem?
  intro i
  rcases Nat.lt_or_ge i a.length with h1 | h1
  · rw [h i h1]
    unfold togAt togT
    rw [if_pos h1, List.getElem?_map, List.getElem?_range h1]
    rfl
  · rw [List.getElem?_eq_none (by omega), List.getElem?_eq_none (by rw [togT_len]; omega)]
theorem tog_step {a b l : List Int} {k : Nat} (hl : l.length = a.length) (hk : k < a.length) (h : ∀ i, i < a.length → l[i]? = some (togAt a b k i)) (x : Int) (hx : x = if a.getD k 0 = b.getD k 0 then a.getD k 0 else 0) : (l.set k x).length = a.length ∧ ∀ i, i < a.length → (l.set k x)[i]? = some (togAt a b (k + 1) i) := by
  refine ⟨by rw [List.length_set]; exact hl, fun i hi => ?_⟩
  by_cases e : i = k
  · subst e
    rw [List.getElem?_set_self (by omega), hx]
    unfold togAt
    rw [if_pos (Nat.lt_succ_self _)]
  · rw [List.getElem?_set_ne (fun x => e x.symm), h i hi]
    unfold togAt
    by_cases h1 : i < k
    · rw [if_pos h1, if_pos (show i < k + 1 by omega)]
    · rw [if_neg h1, if_neg (show ¬i < k + 1 by omega)]
theorem tog_same {a b l : List Int} {k : Nat} (hk : k < a.length) (h : ∀ i, i < a.length → l[i]? = some (togAt a b k i)) (hx : a.getD k 0 = b.getD k 0) : ∀ i, i < a.length → l[i]? = some (togAt a b (k + 1) i) := by
  intro i hi
  rw [h i hi]
  unfold togAt
  by_cases e : i = k
  · subst e
    rw [if_neg (Nat.lt_irrefl _), if_pos (Nat.lt_succ_self _), if_pos hx]
  · by_cases h1 : i < k
    · rw [if_pos h1, if_pos (show i < k + 1 by omega)]
    · rw [if_neg h1, if_neg (show ¬i < k + 1 by omega)]
set_option maxHeartbeats 8000000 in
set_option maxRecDepth 100000 in
theorem together_any (A1 A2 : Option Addr) (a b : List Int) (c1 c2 : Nat) (w : World) (h1 : I64L w A1 a) (h2 : I64L w A2 b) (hl : a.length = b.length) (hs : a.length ≤ 1000) :
    Calls Tryz.prog 28 #[.slice A1 a.length c1, .slice A2 b.length c2] w fun e w' => ∃ v, e = .returned v ∧ NewT w' w.heap.size v (togT a b) ∧ Below w.heap.size w w' := by
  have HR : Bx _ := ⟨And.intro h1 h2⟩
  have kc := tclone_any A1 a c1 w h1 (by omega)
  have HLB : Bx (a.length = b.length) := ⟨hl⟩
  clear h1 h2 hl
  go_enter Tryz.func28, Tryz.ntmps28
  go_wp2_with fail
  refine kc.mono ?_
  rintro e w1 ⟨v, rfl, hown, hb⟩
  have HO : Bx _ := ⟨And.intro hown hb⟩
  obtain ⟨A, c, hv, _, _⟩ := row_new (Nat.le_refl _) hown
  subst hv
  clear kc hown hb
  go_wp2_with fail
  go_loopw [11] (fun i wr => ∃ (k : Nat) (l : List Int), k ≤ a.length ∧ i = .int .i64 (k : Int) ∧ Bx (wr.ownsRow w.heap.size 95 1 (.slice A a.length c) a.length (intC l) ∧ Below w.heap.size w wr ∧ l.length = a.length ∧ ∀ i, i < a.length → l[i]? = some (togAt a b k i))) (fun i _ => a.length - (intOf i).toNat)
  case atStart => exact ⟨0, a, by omega, rfl, ⟨HO.out.1, HO.out.2, rfl, fun i hi => by unfold togAt; rw [if_neg (by omega), List.getD_eq_getElem?_getD, List.getElem?_eq_getElem hi]; rfl⟩⟩
  case round =>
    obtain ⟨k, l, hk, rfl, HI⟩ := hrel
    by_cases hlt : k < a.length
    · obtain ⟨b1, o1, rfl, hrow1⟩ := row_one (HR.out.1.below HI.out.2.1) (by omega)
      obtain ⟨b2, o2, rfl, hrow2⟩ := row_one (HR.out.2.below HI.out.2.1) (by rw [← HLB.out]; omega)
      have hlb : k < b.length := by rw [← HLB.out]; exact hlt
      have r1 : wr.cell? ⟨b1, o1 + k, none⟩ = some (.int .i64 (a.getD k 0)) := hrow1 k _ (by rw [List.getD_eq_getElem?_getD, List.getElem?_eq_getElem hlt]; rfl)
      have r2 : wr.cell? ⟨b2, o2 + k, none⟩ = some (.int .i64 (b.getD k 0)) := hrow2 k _ (by rw [List.getD_eq_getElem?_getD, List.getElem?_eq_getElem hlb]; rfl)
      clear hrow1 hrow2
      obtain ⟨g, cp, hv, hle⟩ := own_some HI.out.1 (by omega)
      injection hv with hv1 hv2 hv3
      subst hv1
      have hv4 : cp = c := hv3.symm
      subst hv4
      clear hv2 hv3
      obtain ⟨x, hx⟩ : ∃ x, a.getD k 0 = x := ⟨_, rfl⟩
      obtain ⟨y, hy⟩ : ∃ y, b.getD k 0 = y := ⟨_, rfl⟩
      rw [hx] at r1
      rw [hy] at r2
      obtain ⟨E, hE⟩ : ∃ E, (x != y) = E := ⟨_, rfl⟩
      have hE2 : (!(x == y)) = E := hE
      have HXY : Bx (a.getD k 0 = x ∧ b.getD k 0 = y ∧ (x != y) = E) := ⟨hx, hy, hE⟩
      clear hx hy
      have q1 := cell_regrown r1
      have q2 := cell_regrown r2
      go_wp2_with fail
      clear r1 r2
      refine wp_region_quiet_below (by kernel_rfl) (by kernel_rfl) ?_
      repeat (go_big_quiet_step (fail))
      refine wpQuiet_nil ?_
      intro _ hw'
      obtain ⟨⟨dq, osq⟩, hw''⟩ := hw'
      subst hw''
      have HN : Bx ((Go.Sort.grow (redrawn wr dq) osq).ownsRow w.heap.size 95 1 (.slice (some ⟨g, 0, none⟩) a.length cp) a.length (intC l) ∧ Below w.heap.size w (Go.Sort.grow (redrawn wr dq) osq)) := ⟨HI.out.1.kept (grownB (below_regrown wr dq osq) none) (no_rowB _), HI.out.2.1.trans ((below_regrown wr dq osq).mono HI.out.2.1.size)⟩
      clear q1 q2 hE
      generalize Go.Sort.grow (redrawn wr dq) osq = w2 at *
      cases E
      · have HF : Bx (w2.ownsRow w.heap.size 95 1 (.slice (some ⟨g, 0, none⟩) a.length cp) a.length (intC l) ∧ Below w.heap.size w w2 ∧ l.length = a.length ∧ ∀ i, i < a.length → l[i]? = some (togAt a b (k + 1) i)) := ⟨HN.out.1, HN.out.2, HI.out.2.2.1, tog_same hlt HI.out.2.2.2 (by rw [HXY.out.1, HXY.out.2.1]; have := HXY.out.2.2; simpa using this)⟩
        go_wp2_with fail
        exact ⟨⟨k + 1, l, by omega, by rw [Int.natCast_succ], HF⟩, by simp only [intOf]; omega⟩
      · have hst := HN.out.1.stored k (.int .i64 0)
        rw [intC_set'] at hst
        have hcl : w2.cell? ⟨g, k, none⟩ = (intC l)[k]? := HN.out.1.cellAt k (by omega)
        rw [intC_at' (by rw [HI.out.2.2.1]; exact hlt)] at hcl
        have hfr := HN.out.1.frozenAt k
        have HF : Bx ((w2.setCell ⟨g, k, none⟩ (.int .i64 0)).ownsRow w.heap.size 95 1 (.slice (some ⟨g, 0, none⟩) a.length cp) a.length (intC (l.set k 0)) ∧ Below w.heap.size w (w2.setCell ⟨g, k, none⟩ (.int .i64 0)) ∧ (l.set k 0).length = a.length ∧ ∀ i, i < a.length → (l.set k 0)[i]? = some (togAt a b (k + 1) i)) := ⟨hst.1, HN.out.2.setCell (HN.out.1.lt g rfl).1 _, tog_step HI.out.2.2.1 hlt HI.out.2.2.2 0 (by rw [HXY.out.1, HXY.out.2.1, if_neg (by have := HXY.out.2.2; simpa using this)])⟩
        clear hst
        generalize l.getD k 0 = z at *
        go_wp2_with fail
        exact ⟨⟨k + 1, l.set k 0, by omega, by rw [Int.natCast_succ], HF⟩, by simp only [intOf]; omega⟩
    · obtain rfl : k = a.length := by omega
      have HE : Bx (l = togT a b) := ⟨tog_end HI.out.2.2.1 HI.out.2.2.2⟩
      go_wp2_with fail
      go_ret
      refine ⟨_, rfl, ?_, HI.out.2.1⟩
      have h := HI.out.1
      rw [HE.out] at h
      exact row_new (Nat.le_refl _) (by rw [togT_len]; exact h)
/-- a map of stacks: what stands at a key -/
def ahdV (f : Int → Option (List Int)) (V : Int → Value) : Lit → Option Value
  | .int .i64 j => (f j).map fun _ => V j
  | _ => none
/-- .. where no row lies in a block B -/
structure AhdAt (w : World) (MB cnt : Nat) (f : Int → Option (List Int)) (B : Option Nat) : Prop where
  ex : ∃ V, MapAt Tryz.prog w 3 MB cnt (ahdV f V) ∧ ∀ j t, f j = some t → ∃ A c, V j = .slice A t.length c ∧ I64L w A t ∧ ∀ b off, A = some ⟨b, off, none⟩ → 0 < t.length → B ≠ some b
theorem AhdAt.lt {w : World} {MB cnt : Nat} {f : Int → Option (List Int)} {B : Option Nat} (h : AhdAt w MB cnt f B) : MB < w.heap.size := by
  obtain ⟨V, h, _⟩ := h.ex
  exact h.lt
theorem AhdAt.below {w w' : World} {MB cnt : Nat} {f : Int → Option (List Int)} {B : Option Nat} (h : AhdAt w MB cnt f B) (hb : Below w.heap.size w w') : AhdAt w' MB cnt f B := by
  obtain ⟨V, h1, h2⟩ := h.ex
  exact ⟨V, h1.below hb, fun j t hj => by obtain ⟨A, c, e, hr, hn⟩ := h2 j t hj; exact ⟨A, c, e, hr.below hb, hn⟩⟩
/-- where a row lies, it lies below -/
theorem RowL.row_lt {α : Type} {k : Nat} {enc : α → List Value} {w : World} {A : Option Addr} {l : List α} (h : RowL k enc w A l) (hk : ∀ x, 0 < (enc x).length) (hn : 0 < l.length) : ∃ b off, A = some ⟨b, off, none⟩ ∧ b < w.heap.size := by
  obtain ⟨b, off, e, hr⟩ := h.row hn
  have hx : l[0]? = some l[0] := List.getElem?_eq_getElem hn
  have hp := hk l[0]
  obtain ⟨v, hv⟩ : ∃ v, (enc l[0])[0]? = some v := ⟨_, List.getElem?_eq_getElem hp⟩
  exact ⟨b, off, e, cell_lt (hr 0 _ hx 0 _ hv)⟩
/-- the block that is avoided has grown, or moved -/
theorem AhdAt.turned {w w' : World} {MB cnt : Nat} {f : Int → Option (List Int)} {B B' : Option Nat} (h : AhdAt w MB cnt f B) (ht : Turned B.toList w w') (hM : B ≠ some MB) (hB : B' = B ∨ ∃ g, B' = some g ∧ w.heap.size ≤ g) : AhdAt w' MB cnt f B' := by
  obtain ⟨V, h1, h2⟩ := h.ex
  refine ⟨V, h1.block (ht.block MB h1.lt (fun e => hM (by cases B with | none => cases e | some g => simp at e; rw [e]))), fun j t hj => ?_⟩
  obtain ⟨A, c, e, hr, hn⟩ := h2 j t hj
  rcases Nat.eq_zero_or_pos t.length with h0 | h0
  · have ht0 : t = [] := List.length_eq_zero_iff.1 h0
    subst ht0
    exact ⟨A, c, e, RowL.nil, fun b off _ h => absurd h (by simp)⟩
  · obtain ⟨b, off, eA, hlt⟩ := hr.row_lt (fun _ => by simp) h0
    subst eA
    have hne := hn b off rfl h0
    refine ⟨_, c, e, ⟨fun hp => ?_, hr.n⟩, fun b' off' e' _ => ?_⟩
    · obtain ⟨b2, off2, e2, hrow⟩ := hr.row hp
      injection e2 with e2
      injection e2 with e3 e4
      subst e3 e4
      exact ⟨b, off, rfl, fun i x hx j' v hv => ht.cell (hrow i x hx j' v hv) (fun e => hne (by cases B with | none => cases e | some g => simp at e; rw [e]))⟩
    · injection e' with e'
      injection e' with e3 e4
      subst e3
      rcases hB with rfl | ⟨g, rfl, hg⟩
      · exact hne
      · intro e5; injection e5 with e5; omega
/-- a row lies in no map -/
theorem RowL.noMap {α : Type} {k : Nat} {enc : α → List Value} {w w' : World} {A : Option Addr} {l : List α} {MB : Nat} (h : RowL k enc w A l) (hm : ∃ es clock, w.heap[MB]? = some (.map es clock)) (hg : w.grownBy w' (some MB)) : RowL k enc w' A l where
  row := fun hn => by
    obtain ⟨b, off, e, hr⟩ := h.row hn
    refine ⟨b, off, e, fun i x hx j v hj => ?_⟩
    have hc := hr i x hx j v hj
    have hne : b ≠ MB := by
      rintro rfl
      obtain ⟨es, clock, h0⟩ := hm
      simp [World.cell?, h0] at hc
    rw [World.cell?_of_block (w := w) (hg.block b (cell_lt hc) (by intro e; injection e with e; exact hne e))]
    exact hc
  n := h.n
theorem ahdV_put (f : Int → Option (List Int)) (V : Int → Value) (n : Int) (s : List Int) (u : Value) : ahdV (putT f n s) (fun j => if j = n then u else V j) = upd (ahdV f V) (.int .i64 n) (some u) := by
  funext l
  by_cases h : l = .int .i64 n
  · subst h
    rw [upd_same]
    simp [ahdV, putT]
  · rw [upd_other _ _ h]
    unfold ahdV
    split
    · rename_i j
      have : j ≠ n := fun e => h (by rw [e])
      simp [putT, this]
    · rfl
theorem AhdAt.put {w w' : World} {MB cnt cnt' : Nat} {f : Int → Option (List Int)} {B : Option Nat} {V : Int → Value} (h1 : MapAt Tryz.prog w 3 MB cnt (ahdV f V)) (h2 : ∀ j t, f j = some t → ∃ A c, V j = .slice A t.length c ∧ I64L w A t ∧ ∀ b off, A = some ⟨b, off, none⟩ → 0 < t.length → B ≠ some b) {n : Int} {s : List Int} {A : Option Addr} {c : Nat} (hs : I64L w A s) (hsB : ∀ b off, A = some ⟨b, off, none⟩ → 0 < s.length → B ≠ some b) (hm : MapAt Tryz.prog w' 3 MB cnt' (upd (ahdV f V) (.int .i64 n) (some (.slice A s.length c)))) (hg : w.grownBy w' (some MB)) : AhdAt w' MB cnt' (putT f n s) B := by
  refine ⟨fun j => if j = n then .slice A s.length c else V j, by rw [ahdV_put]; exact hm, fun j t hj => ?_⟩
  unfold putT at hj
  by_cases e : j = n
  · rw [if_pos e] at hj
    injection hj with hj
    subst hj
    exact ⟨A, c, by simp [e], hs.noMap h1.isMap hg, hsB⟩
  · rw [if_neg e] at hj
    obtain ⟨A', c', e', hr, hn⟩ := h2 j t hj
    exact ⟨A', c', by simp [e, e'], hr.noMap h1.isMap hg, hn⟩
theorem zeroTs (w : World) : (zeroValue 88).run Tryz.prog w = .ok (.slice none 0 0) w := by kernel_rfl
end
section
open Go.RowKit
open Go.Maps (Keyed)
set_option maxHeartbeats 4000000 in
set_option maxRecDepth 100000 in
theorem come_any (n : Int) (A : Option Addr) (s : List Int) (c AB MB cnt : Nat) (f : Int → Option (List Int)) (w : World) (hn : i64B n) (hab : w.cell? ⟨AB, 0, none⟩ = some (.map (some MB))) {B : Option Nat} (ha : AhdAt w MB cnt f B) (hBl : ∀ g, B = some g → g < w.heap.size) (hs : I64L w A s) (hsB : ∀ b off, A = some ⟨b, off, none⟩ → 0 < s.length → B ≠ some b) (hl : ∀ a, f n = some a → a.length = s.length) (hsz : s.length ≤ 1000) (hc : cnt ≤ 1048576) :
    Calls Tryz.prog 27 #[.int .i64 n, .slice A s.length c, .pointer (some ⟨AB, 0, none⟩)] w fun e w' => e = .returned (.tuple #[]) ∧ AhdAt w' MB (cnt + 1) (comeT f n s) B ∧ Turned [MB] w w' := by
  obtain ⟨V, h1, h2⟩ := ha.ex
  have hlk := (h1.look lawI Tryz.underlying89 (zeroTs w) (keyI hn)).1
  have e0 : ahdV f V (.int .i64 n) = (f n).map fun _ => V n := rfl
  rw [e0] at hlk
  have HH : Bx _ := ⟨And.intro h1 h2⟩
  have HS : Bx _ := ⟨hs⟩
  have HSB : Bx _ := ⟨And.intro hsB hBl⟩
  clear hsB hBl
  cases hf : f n with
  | none =>
    rw [hf] at hlk
    simp only [Option.map_none, Option.getD_none, Option.isSome_none] at hlk
    obtain ⟨w2, hrun, hm2, ht2⟩ := h1.store lawI Tryz.underlying89 (by unfold maxLen; omega) (.slice A s.length c) (keyI hn)
    have HF : Bx (AhdAt w2 MB (cnt + 1) (comeT f n s) B ∧ Turned [MB] w w2) := ⟨by
      have := AhdAt.put h1 h2 hs HSB.out.1 hm2 ht2.grown
      unfold comeT
      rw [hf]
      exact this, Turned.ofGrown ht2.grown (fun g e => by injection e with e; subst e; simp)⟩
    clear hm2 ht2 h1 h2 ha hs hl hf e0
    go_enter Tryz.func27, Tryz.ntmps27
    go_wp2_with fail
    refine bodyPost_end (results_none rfl _ _ _) rfl ?_
    exact ⟨rfl, HF.out.1, HF.out.2⟩
  | some a =>
    rw [hf] at hlk
    simp only [Option.map_some, Option.getD_some, Option.isSome_some] at hlk
    obtain ⟨A', c', hv, hr, _⟩ := h2 n a hf
    rw [hv] at hlk
    have hla := hl a hf
    have HFN : Bx (f n = some a) := ⟨hf⟩
    have kt := together_any A' A a s c' c w hr hs hla (by omega)
    have HLA : Bx _ := ⟨hla⟩
    clear h1 h2 ha hs hl hf e0 hv hr hla
    go_enter Tryz.func27, Tryz.ntmps27
    go_wp2_with fail
    refine kt.mono ?_
    rintro e w1 ⟨v, rfl, ⟨A2, c2, rfl, hr2, hn2⟩, hb⟩
    have hab1 : w1.cell? ⟨AB, 0, none⟩ = some (.map (some MB)) := by rw [hb.cell (cell_lt hab)]; exact hab
    obtain ⟨w2, hrun, hm2, ht2⟩ := (HH.out.1.below hb).store lawI Tryz.underlying89 (by unfold maxLen; omega) (.slice A2 (togT a s).length c2) (keyI hn)
    have HF : Bx (AhdAt w2 MB (cnt + 1) (comeT f n s) B ∧ Turned [MB] w w2) := ⟨by
      have := AhdAt.put (HH.out.1.below hb) (fun j t hj => by obtain ⟨A, c, e, hr, hn⟩ := HH.out.2 j t hj; exact ⟨A, c, e, hr.below hb, hn⟩) hr2 (fun b off e _ e2 => by have := hn2 b off e; have := HSB.out.2 b e2; omega) hm2 ht2.grown
      unfold comeT
      rw [HFN.out]
      exact this, (Turned.ofBelow hb).trans (Turned.ofGrown ht2.grown (fun g e => by injection e with e; subst e; simp))⟩
    clear hm2 ht2 hr2 hn2 hb kt hlk hab
    go_wp2_with fail
    refine bodyPost_end (results_none rfl _ _ _) rfl ?_
    exact ⟨rfl, HF.out.1, HF.out.2⟩
end
end Go.Proofs.YtbcajmkmadgbhaaGreatDoor
