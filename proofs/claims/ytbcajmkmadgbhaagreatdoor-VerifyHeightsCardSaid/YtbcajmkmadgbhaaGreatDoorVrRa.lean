/- Verify, plain: the document's Dead and verify's are the same. Verify, the document's answer: not, both, the stack behind an instruction. Verify, the document's answer: two ways that come together; to which instructions one goes on. Verify, the document's answer: to which instructions one goes on. -/
import Derived.Test.YtbcajmkmadgbhaaGreatDoorVrDr
import Derived.Test.YtbcajmkmadgbhaaGreatDoorAppR
set_option linter.unusedVariables false
set_option linter.unusedSimpArgs false
namespace Go.Proofs.YtbcajmkmadgbhaaGreatDoor
section
def bothR (a b : Int) : Int := if a = 1 ∨ b = 1 then 1 else if a = 2 ∧ b = 2 then 2 else 0
/-- a stack of the document's truths: certainly false 1, certainly true 2 -/
def tauL (t : List Int) : List Int := t.map notT
theorem tauL_len (t : List Int) : (tauL t).length = t.length := by unfold tauL; simp
theorem tauL_get (t : List Int) (i : Nat) : (tauL t).getD i 0 = notT (t.getD i 0) := by
  unfold tauL
  rw [List.getD_eq_getElem?_getD, List.getD_eq_getElem?_getD, List.getElem?_map]
  cases t[i]? with
  | none => rfl
  | some x => rfl
theorem tauL_snoc (t : List Int) (x : Int) : tauL t ++ [notT x] = tauL (t ++ [x]) := by unfold tauL; simp
theorem tauL_take (t : List Int) (k : Nat) : (tauL t).take k = tauL (t.take k) := by unfold tauL; rw [List.map_take]
theorem tauL_thr (t : List Int) : Thr (tauL t) := by
  intro x hx
  obtain ⟨y, _, rfl⟩ := List.mem_map.1 hx
  exact notT_thr y
theorem notT_notT {x : Int} (h : x = 0 ∨ x = 1 ∨ x = 2) : notT (notT x) = x := by rcases h with rfl | rfl | rfl <;> rfl
theorem both_and {a b : Int} (ha : a = 0 ∨ a = 1 ∨ a = 2) (hb : b = 0 ∨ b = 1 ∨ b = 2) : bothR (notT a) (notT b) = notT (andT a b) := by
  rcases ha with rfl | rfl | rfl <;> rcases hb with rfl | rfl | rfl <;> rfl
theorem both_thr (a b : Int) : bothR a b = 0 ∨ bothR a b = 1 ∨ bothR a b = 2 := by
  unfold bothR
  repeat' split
  all_goals simp
/-- the stack behind an instruction -/
def aftR (c : Nat) (s : List Int) : List Int :=
  if c = 1 then s ++ [2] else if c = 2 then s ++ [1]
  else if c = 7 then s.take (s.length - 1) ++ [notT (s.getD (s.length - 1) 0)]
  else if c = 8 then s.take (s.length - 2) ++ [bothR (s.getD (s.length - 2) 0) (s.getD (s.length - 1) 0)]
  else if c = 9 then s.take (s.length - 2) ++ [notT (bothR (notT (s.getD (s.length - 2) 0)) (notT (s.getD (s.length - 1) 0)))]
  else if c = 10 ∨ c = 11 then s else if c = 12 ∨ c = 13 then s.take (s.length - 1) else s ++ [0]
theorem aft_beh {c : Nat} {t : List Int} (h : Thr t) (hc1 : 1 ≤ c) (hc2 : c ≤ 13) (ht : takesC c ≤ (t.length : Int)) : aftR c (tauL t) = tauL (behT c t) := by
  have hcs : c = 1 ∨ c = 2 ∨ (3 ≤ c ∧ c ≤ 6) ∨ c = 7 ∨ c = 8 ∨ c = 9 ∨ c = 10 ∨ c = 11 ∨ c = 12 ∨ c = 13 := by omega
  rcases hcs with rfl | rfl | hc | rfl | rfl | rfl | rfl | rfl | rfl | rfl
  · exact tauL_snoc t 1
  · exact tauL_snoc t 2
  · have e1 : behT c t = t ++ [0] := by unfold behT; rw [if_neg (by omega), if_neg (by omega), if_pos hc]
    have e2 : aftR c (tauL t) = tauL t ++ [0] := by unfold aftR; rw [if_neg (by omega), if_neg (by omega), if_neg (by omega), if_neg (by omega), if_neg (by omega), if_neg (by omega), if_neg (by omega)]
    rw [e1, e2]
    exact tauL_snoc t 0
  · have hl : 1 ≤ t.length := by unfold takesC at ht; simp at ht; omega
    have e1 : behT 7 t = t.take (t.length - 1) ++ [notT (t.getD (t.length - 1) 0)] := by
      show t.set (t.length - 1) (notT (t.getD (t.length - 1) 0)) = _
      rw [← set_last (by omega), List.take_of_length_le (by simp; omega)]
    rw [e1, ← tauL_snoc, ← tauL_take]
    show (tauL t).take ((tauL t).length - 1) ++ [notT ((tauL t).getD ((tauL t).length - 1) 0)] = _
    rw [tauL_len, tauL_get]
  · have hl : 2 ≤ t.length := by unfold takesC at ht; simp at ht; omega
    have e1 : behT 8 t = t.take (t.length - 2) ++ [andT (t.getD (t.length - 2) 0) (t.getD (t.length - 1) 0)] := by
      show (t.set (t.length - 2) (andT (t.getD (t.length - 2) 0) (t.getD (t.length - 1) 0))).take (t.length - 1) = _
      rw [show t.length - 1 = t.length - 2 + 1 by omega, set_last (by omega)]
    rw [e1, ← tauL_snoc, ← tauL_take]
    show (tauL t).take ((tauL t).length - 2) ++ [bothR ((tauL t).getD ((tauL t).length - 2) 0) ((tauL t).getD ((tauL t).length - 1) 0)] = _
    rw [tauL_len, tauL_get, tauL_get, both_and (h.get _) (h.get _)]
  · have hl : 2 ≤ t.length := by unfold takesC at ht; simp at ht; omega
    have e1 : behT 9 t = t.take (t.length - 2) ++ [notT (andT (notT (t.getD (t.length - 2) 0)) (notT (t.getD (t.length - 1) 0)))] := by
      show (t.set (t.length - 2) (notT (andT (notT (t.getD (t.length - 2) 0)) (notT (t.getD (t.length - 1) 0))))).take (t.length - 1) = _
      rw [show t.length - 1 = t.length - 2 + 1 by omega, set_last (by omega)]
    rw [e1, ← tauL_snoc, ← tauL_take]
    show (tauL t).take ((tauL t).length - 2) ++ [notT (bothR (notT ((tauL t).getD ((tauL t).length - 2) 0)) (notT ((tauL t).getD ((tauL t).length - 1) 0)))] = _
    rw [tauL_len, tauL_get, tauL_get, both_and (notT_thr _) (notT_thr _)]
  · rfl
  · rfl
  · show (tauL t).take ((tauL t).length - 1) = tauL (t.take (t.length - 1))
    rw [tauL_len, tauL_take]
  · show (tauL t).take ((tauL t).length - 1) = tauL (t.take (t.length - 1))
    rw [tauL_len, tauL_take]
/-- two ways that come together -/
def joinR (come : Bool) (a b : List Int) : List Int := (List.range b.length).map fun i => if (come && (a.getD i 0 != b.getD i 0)) = true then 0 else b.getD i 0
theorem join_new (a b : List Int) : joinR false a b = b := by
  unfold joinR
  apply List.ext_getElem?
  intro i
  rw [List.getElem?_map]
  rcases Nat.lt_or_ge i b.length with h | h
  · rw [List.getElem?_range h, List.getElem?_eq_getElem h]
    simp [List.getD_eq_getElem?_getD, List.getElem?_eq_getElem h]
  · rw [List.getElem?_eq_none (by simpa using h), List.getElem?_eq_none h]; rfl
theorem notT_inj {a b : Int} (ha : a = 0 ∨ a = 1 ∨ a = 2) (hb : b = 0 ∨ b = 1 ∨ b = 2) : (notT a = notT b) ↔ a = b := by
  rcases ha with rfl | rfl | rfl <;> rcases hb with rfl | rfl | rfl <;> decide
theorem join_tog {a b : List Int} (ha : Thr a) (hb : Thr b) (hl : a.length = b.length) : joinR true (tauL a) (tauL b) = tauL (togT a b) := by
  unfold joinR togT
  rw [tauL_len, hl]
  unfold tauL
  rw [List.map_map]
  apply List.map_congr_left
  intro i _
  have e1 : (a.map notT).getD i 0 = notT (a.getD i 0) := tauL_get a i
  have e2 : (b.map notT).getD i 0 = notT (b.getD i 0) := tauL_get b i
  simp only [Function.comp, Bool.true_and, e1, e2, bne_iff_ne, ne_eq]
  by_cases h : a.getD i 0 = b.getD i 0
  · rw [if_pos h, if_neg (by rw [h]; simp), h]
  · rw [if_neg h, if_pos (fun e => h ((notT_inj (ha.get i) (hb.get i)).1 e))]; rfl
/-- to which instructions one goes on -/
def waysR (i : InsD) (n N : Nat) (s : List Int) : List Int :=
  if jumpC i.c then
    let top := if i.c = 11 then notT (topT s) else topT s
    if top = 1 then [i.a] else if top = 2 then [(n : Int) + 1] else [(n : Int) + 1, i.a]
  else if n + 1 < N then [(n : Int) + 1] else []
theorem top_tau (t : List Int) : topT (tauL t) = notT (topT t) := by
  unfold topT
  rw [tauL_len]
  split
  · exact tauL_get _ _
  · rfl
theorem topT_thr {t : List Int} (h : Thr t) : topT t = 0 ∨ topT t = 1 ∨ topT t = 2 := by
  unfold topT
  split
  · exact h.get _
  · exact Or.inl rfl
theorem ways_sure {i : InsD} {n N : Nat} {t : List Int} (h : Thr t) : waysR i n N (tauL t) = if jumpC i.c then (if sureT i.c t = 1 then [i.a] else if sureT i.c t = 2 then [(n : Int) + 1] else [(n : Int) + 1, i.a]) else if n + 1 < N then [(n : Int) + 1] else [] := by
  unfold waysR
  by_cases hj : jumpC i.c = true
  · rw [if_pos hj, if_pos hj]
    have e : (if i.c = 11 then notT (topT (tauL t)) else topT (tauL t)) = sureT i.c t := by
      unfold sureT
      rw [top_tau]
      unfold jumpC at hj
      simp at hj
      rcases hj with e | e
      · rw [e]; simp
      · rw [e]; simp [notT_notT (topT_thr h)]
    simp only [e]
  · rw [if_neg hj, if_neg hj]
theorem comeT_comm (f : Int → Option (List Int)) (a b : Int) (s : List Int) : comeT (comeT f a s) b s = comeT (comeT f b s) a s := by
  by_cases e : a = b
  · rw [e]
  · have e' : b ≠ a := fun h => e h.symm
    funext j
    by_cases h1 : j = a
    · have h2 : j ≠ b := fun h => e (h1.symm.trans h)
      rw [comeT_other h2]
      subst h1
      unfold comeT putT
      rw [if_pos rfl, if_pos rfl, if_neg e]
    · rw [comeT_other h1]
      by_cases h2 : j = b
      · subst h2
        unfold comeT putT
        rw [if_pos rfl, if_pos rfl, if_neg e']
      · rw [comeT_other h2, comeT_other h2, comeT_other h1]
/-- the ways of the document make the same of what has come, within the code -/
theorem fold_step {L : List InsD} {n : Nat} {i : InsD} {t : List Int} {f : Int → Option (List Int)} (ht : Thr t) (m : Nat) (hm : m < L.length) : ((waysR i n L.length (tauL t)).foldl (fun f x => comeT f x (behT i.c t)) f) (m : Int) = stepD i n f t (m : Int) := by
  rw [ways_sure ht]
  unfold stepD
  by_cases hj : jumpC i.c = true
  · rw [if_pos hj, if_pos hj]
    split
    · rfl
    · split
      · rfl
      · show comeT (comeT f ((n : Int) + 1) (behT i.c t)) i.a (behT i.c t) (m : Int) = _
        rw [comeT_comm]
  · rw [if_neg hj, if_neg hj]
    split
    · rfl
    · rename_i hn
      show f (m : Int) = _
      rw [comeT_other (by omega)]
end
section
open Go.RowKit
theorem rnot_any (t : Int) (w : World) (ht : t = 0 ∨ t = 1 ∨ t = 2) : Calls Tryz.prog 88 #[.int .i64 t] w fun e w' => e = .returned (.int .i64 (notT t)) ∧ w' = w := by
  rcases ht with rfl | rfl | rfl <;>
  · go_enter Tryz.func88, Tryz.ntmps88
    go_wp2
    go_ret
    exact ⟨rfl, rfl⟩
theorem rboth_any (t u : Int) (w : World) (ht : t = 0 ∨ t = 1 ∨ t = 2) (hu : u = 0 ∨ u = 1 ∨ u = 2) : Calls Tryz.prog 89 #[.int .i64 t, .int .i64 u] w fun e w' => e = .returned (.int .i64 (bothR t u)) ∧ w' = w := by
  rcases ht with rfl | rfl | rfl <;> rcases hu with rfl | rfl | rfl <;>
  · go_enter Tryz.func89, Tryz.ntmps89
    go_wp2
    go_ret
    exact ⟨rfl, rfl⟩
/-- a row of one's own, as it is handed back -/
def NewR (w' : World) (S : Nat) (v : Value) (l : List Int) : Prop := ∃ A c, v = .slice A l.length c ∧ I64L w' A l ∧ (∀ b off, A = some ⟨b, off, none⟩ → S ≤ b) ∧ l.length ≤ c
theorem row_newI {w' : World} {S BB : Nat} {v : Value} {l : List Int} {n : Nat} (hn : l.length = n) (hb : S ≤ BB) (h : w'.ownsRow BB 3 1 v n (intC l)) : NewR w' S v l := by
  subst hn
  have hc : ∀ A c, v = .slice A l.length c → l.length ≤ c := fun A c e => by
    obtain ⟨_, ⟨e2, h0⟩ | ⟨M, cap, cur, e2, _, _, hnc, _⟩⟩ := h
    · omega
    · rw [e] at e2; injection e2 with _ _ e3; omega
  rw [← flat_int] at h
  obtain ⟨A, c, rfl, hr, hn⟩ := RowL.ofOwn (enc := fun z : Int => [Value.int .i64 z]) (by decide) (fun x => rfl) h
  exact ⟨A, c, rfl, hr, fun b off e => Nat.le_trans hb (hn b off e), hc _ _ rfl⟩
theorem RowL.take {α : Type} {k : Nat} {enc : α → List Value} {w : World} {A : Option Addr} {l : List α} (h : RowL k enc w A l) (q : Nat) : RowL k enc w A (l.take q) where
  row := fun hp => by
    obtain ⟨b, off, e, hr⟩ := h.row (by rw [List.length_take] at hp; omega)
    refine ⟨b, off, e, fun i x hx j v hj => hr i x ?_ j v hj⟩
    rw [List.getElem?_take] at hx
    split at hx
    · exact hx
    · cases hx
  n := by have := h.n; rw [List.length_take]; omega
structure AfB (w wr : World) (A : Option Addr) (s : List Int) : Prop where
  row : I64L wr A s
  below : Below w.heap.size w wr
theorem AfB.step {w wr w' : World} {A : Option Addr} {s : List Int} (h : AfB w wr A s) (hb : Below wr.heap.size wr w') : AfB w w' A s := ⟨h.row.below hb, h.below.trans (hb.mono h.below.size)⟩
theorem grown_belowN {w w1 : World} (hg : w.grownBy w1 (Value.slice none 0 0).ownBlock) : Below w.heap.size w w1 := ⟨hg.os, hg.tape, hg.output, hg.size, fun i hi => hg.block i hi (by simp [Value.ownBlock])⟩
theorem grown_belowO {w w1 : World} {B : Nat} {v : Value} {n : Nat} {xs : List Value} (ho : w.ownsRow B 3 1 v n xs) (hB : B ≤ w.heap.size) (hg : w.grownBy w1 v.ownBlock) : Below B w w1 := belowOwn (Below.refl _ _) hg (fun g e => (ho.lt g e).1) hB
set_option maxHeartbeats 8000000 in
set_option maxRecDepth 100000 in
theorem after_any (c : Nat) (ia ib : Int) (A : Option Addr) (s : List Int) (cap : Nat) (w : World) (hr : I64L w A s) (hs : s.length ≤ 1000) (ht : Thr s) (hc1 : 1 ≤ c) (hc2 : c ≤ 13) (htk : takesC c ≤ (s.length : Int)) (hcap : s.length ≤ cap) :
    Calls Tryz.prog 64 #[.agg #[.int .u8 (c : Int), .int .i64 ia, .int .i64 ib], .slice A s.length cap] w fun e w' => ∃ v, e = .returned v ∧ NewR w' w.heap.size v (aftR c s) ∧ Below w.heap.size w w' := by
  obtain ⟨i0, hi, hiz, hi1, hi2⟩ := info_parts (show (Tryz.prog.info? 3).map (fun i => (i.zero, i.size, i.bytes)) = some (some (.int .i64 0), 1, 8) by kernel_rfl)
  have HI0 : Bx (Tryz.prog.info? 3 = some i0 ∧ i0.zero = some (.int .i64 0) ∧ i0.size = 1 ∧ i0.bytes = 8) := ⟨hi, hiz, hi1, hi2⟩
  have HT : Bx _ := ⟨And.intro ht htk⟩
  have HR1 : Bx _ := ⟨And.intro (AfB.mk (hr.below (below1 w (.cells #[.int .u8 (c : Int), .int .i64 ia, .int .i64 ib] 94))) (below1 w (.cells #[.int .u8 (c : Int), .int .i64 ia, .int .i64 ib] 94))) (CB.new w #[.int .u8 (c : Int), .int .i64 ia, .int .i64 ib] 94)⟩
  clear hi hiz hi1 hi2 hr ht
  go_enter Tryz.func64, Tryz.ntmps64
  go_upto_region 1 with (fail)
  generalize (w.alloc (.cells #[.int .u8 (c : Int), .int .i64 ia, .int .i64 ib] 94)) = w1 at *
  have n0 := HR1.out.2.at 0 _ rfl
  have hB1 := HR1.out.1.below.size
  go_upto_region 4 with (fail)
  have hcs : c = 1 ∨ c = 2 ∨ c = 3 ∨ c = 4 ∨ c = 5 ∨ c = 6 ∨ c = 7 ∨ c = 8 ∨ c = 9 ∨ c = 10 ∨ c = 11 ∨ c = 12 ∨ c = 13 := by omega
  rcases hcs with rfl | rfl | rfl | rfl | rfl | rfl | rfl | rfl | rfl | rfl | rfl | rfl | rfl
  · have HB2 : Bx (aftR 1 s = s ++ [2]) := ⟨rfl⟩
    go_wp2_with (first | (at_builtin; refine wpList_app_row (enc := fun z : Int => [Value.int .i64 z]) _ rfl _ _ 62 rfl w1.heap.size 3 i0 (.int .i64 0) 1 8 Tryz.underlying62 HI0.out.1 HI0.out.2.1 HI0.out.2.2.1 HI0.out.2.2.2 rfl (by decide) (.slice none 0 0) 0 [] rfl (World.ownsRow_nil _ _ _ _) A s cap rfl (fun x => rfl) HR1.out.1.row one_int (by unfold maxLen; omega) (by omega) (Nat.le_refl _) ?_; intro v1 w2 hown1 hg1; have HO1 : Bx (w2.ownsRow w1.heap.size 3 1 v1 s.length (intC s) ∧ AfB w w2 A s ∧ w1.heap.size ≤ w2.heap.size) := ⟨by rw [← flat_int]; simpa using hown1, HR1.out.1.step (grown_belowN hg1), (grown_belowN hg1).size⟩; clear hown1 hg1) | (at_builtin; refine wpList_append_own _ rfl _ _ 62 rfl w1.heap.size 3 i0 (.int .i64 0) 1 8 Tryz.underlying62 HI0.out.1 HI0.out.2.1 HI0.out.2.2.1 HI0.out.2.2.2 rfl (by decide) v1 s.length (intC s) rfl (HO1.out.1.alloc _) ⟨w2.heap.size, 0, none⟩ 1 1 [.int .i64 2] rfl rfl (newsI w2 _ _) (oneI _) (by unfold maxLen; omega) (by omega) (Nat.le_trans HO1.out.2.2 (below1 _ _).size) ?_; intro v3 w3 hown hg _; have HF : Bx (w3.ownsRow w1.heap.size 3 1 v3 (s.length + 1) (intC (s ++ [2])) ∧ Below w.heap.size w w3) := ⟨by rw [intC_snoc]; exact hown, HO1.out.2.1.below.trans (((below1 w2 _).mono HO1.out.2.1.below.size).trans ((grown_belowO (HO1.out.1.alloc _) (Nat.le_trans HO1.out.2.2 (below1 _ _).size) hg).mono hB1))⟩; clear hown hg) | fail)
    go_ret
    exact ⟨_, rfl, by rw [HB2.out]; exact row_newI (by simp) hB1 HF.out.1, HF.out.2⟩
  · have HB2 : Bx (aftR 2 s = s ++ [1]) := ⟨rfl⟩
    go_wp2_with (first | (at_builtin; refine wpList_app_row (enc := fun z : Int => [Value.int .i64 z]) _ rfl _ _ 62 rfl w1.heap.size 3 i0 (.int .i64 0) 1 8 Tryz.underlying62 HI0.out.1 HI0.out.2.1 HI0.out.2.2.1 HI0.out.2.2.2 rfl (by decide) (.slice none 0 0) 0 [] rfl (World.ownsRow_nil _ _ _ _) A s cap rfl (fun x => rfl) HR1.out.1.row one_int (by unfold maxLen; omega) (by omega) (Nat.le_refl _) ?_; intro v1 w2 hown1 hg1; have HO1 : Bx (w2.ownsRow w1.heap.size 3 1 v1 s.length (intC s) ∧ AfB w w2 A s ∧ w1.heap.size ≤ w2.heap.size) := ⟨by rw [← flat_int]; simpa using hown1, HR1.out.1.step (grown_belowN hg1), (grown_belowN hg1).size⟩; clear hown1 hg1) | (at_builtin; refine wpList_append_own _ rfl _ _ 62 rfl w1.heap.size 3 i0 (.int .i64 0) 1 8 Tryz.underlying62 HI0.out.1 HI0.out.2.1 HI0.out.2.2.1 HI0.out.2.2.2 rfl (by decide) v1 s.length (intC s) rfl (HO1.out.1.alloc _) ⟨w2.heap.size, 0, none⟩ 1 1 [.int .i64 1] rfl rfl (newsI w2 _ _) (oneI _) (by unfold maxLen; omega) (by omega) (Nat.le_trans HO1.out.2.2 (below1 _ _).size) ?_; intro v3 w3 hown hg _; have HF : Bx (w3.ownsRow w1.heap.size 3 1 v3 (s.length + 1) (intC (s ++ [1])) ∧ Below w.heap.size w w3) := ⟨by rw [intC_snoc]; exact hown, HO1.out.2.1.below.trans (((below1 w2 _).mono HO1.out.2.1.below.size).trans ((grown_belowO (HO1.out.1.alloc _) (Nat.le_trans HO1.out.2.2 (below1 _ _).size) hg).mono hB1))⟩; clear hown hg) | fail)
    go_ret
    exact ⟨_, rfl, by rw [HB2.out]; exact row_newI (by simp) hB1 HF.out.1, HF.out.2⟩
  · have HB2 : Bx (aftR 3 s = s ++ [0]) := ⟨rfl⟩
    go_wp2_with (first | (at_builtin; refine wpList_app_row (enc := fun z : Int => [Value.int .i64 z]) _ rfl _ _ 62 rfl w1.heap.size 3 i0 (.int .i64 0) 1 8 Tryz.underlying62 HI0.out.1 HI0.out.2.1 HI0.out.2.2.1 HI0.out.2.2.2 rfl (by decide) (.slice none 0 0) 0 [] rfl (World.ownsRow_nil _ _ _ _) A s cap rfl (fun x => rfl) HR1.out.1.row one_int (by unfold maxLen; omega) (by omega) (Nat.le_refl _) ?_; intro v1 w2 hown1 hg1; have HO1 : Bx (w2.ownsRow w1.heap.size 3 1 v1 s.length (intC s) ∧ AfB w w2 A s ∧ w1.heap.size ≤ w2.heap.size) := ⟨by rw [← flat_int]; simpa using hown1, HR1.out.1.step (grown_belowN hg1), (grown_belowN hg1).size⟩; clear hown1 hg1) | (at_builtin; refine wpList_append_own _ rfl _ _ 62 rfl w1.heap.size 3 i0 (.int .i64 0) 1 8 Tryz.underlying62 HI0.out.1 HI0.out.2.1 HI0.out.2.2.1 HI0.out.2.2.2 rfl (by decide) v1 s.length (intC s) rfl (HO1.out.1.alloc _) ⟨w2.heap.size, 0, none⟩ 1 1 [.int .i64 0] rfl rfl (newsI w2 _ _) (oneI _) (by unfold maxLen; omega) (by omega) (Nat.le_trans HO1.out.2.2 (below1 _ _).size) ?_; intro v3 w3 hown hg _; have HF : Bx (w3.ownsRow w1.heap.size 3 1 v3 (s.length + 1) (intC (s ++ [0])) ∧ Below w.heap.size w w3) := ⟨by rw [intC_snoc]; exact hown, HO1.out.2.1.below.trans (((below1 w2 _).mono HO1.out.2.1.below.size).trans ((grown_belowO (HO1.out.1.alloc _) (Nat.le_trans HO1.out.2.2 (below1 _ _).size) hg).mono hB1))⟩; clear hown hg) | fail)
    go_ret
    exact ⟨_, rfl, by rw [HB2.out]; exact row_newI (by simp) hB1 HF.out.1, HF.out.2⟩
  · have HB2 : Bx (aftR 4 s = s ++ [0]) := ⟨rfl⟩
    go_wp2_with (first | (at_builtin; refine wpList_app_row (enc := fun z : Int => [Value.int .i64 z]) _ rfl _ _ 62 rfl w1.heap.size 3 i0 (.int .i64 0) 1 8 Tryz.underlying62 HI0.out.1 HI0.out.2.1 HI0.out.2.2.1 HI0.out.2.2.2 rfl (by decide) (.slice none 0 0) 0 [] rfl (World.ownsRow_nil _ _ _ _) A s cap rfl (fun x => rfl) HR1.out.1.row one_int (by unfold maxLen; omega) (by omega) (Nat.le_refl _) ?_; intro v1 w2 hown1 hg1; have HO1 : Bx (w2.ownsRow w1.heap.size 3 1 v1 s.length (intC s) ∧ AfB w w2 A s ∧ w1.heap.size ≤ w2.heap.size) := ⟨by rw [← flat_int]; simpa using hown1, HR1.out.1.step (grown_belowN hg1), (grown_belowN hg1).size⟩; clear hown1 hg1) | (at_builtin; refine wpList_append_own _ rfl _ _ 62 rfl w1.heap.size 3 i0 (.int .i64 0) 1 8 Tryz.underlying62 HI0.out.1 HI0.out.2.1 HI0.out.2.2.1 HI0.out.2.2.2 rfl (by decide) v1 s.length (intC s) rfl (HO1.out.1.alloc _) ⟨w2.heap.size, 0, none⟩ 1 1 [.int .i64 0] rfl rfl (newsI w2 _ _) (oneI _) (by unfold maxLen; omega) (by omega) (Nat.le_trans HO1.out.2.2 (below1 _ _).size) ?_; intro v3 w3 hown hg _; have HF : Bx (w3.ownsRow w1.heap.size 3 1 v3 (s.length + 1) (intC (s ++ [0])) ∧ Below w.heap.size w w3) := ⟨by rw [intC_snoc]; exact hown, HO1.out.2.1.below.trans (((below1 w2 _).mono HO1.out.2.1.below.size).trans ((grown_belowO (HO1.out.1.alloc _) (Nat.le_trans HO1.out.2.2 (below1 _ _).size) hg).mono hB1))⟩; clear hown hg) | fail)
    go_ret
    exact ⟨_, rfl, by rw [HB2.out]; exact row_newI (by simp) hB1 HF.out.1, HF.out.2⟩
  · have HB2 : Bx (aftR 5 s = s ++ [0]) := ⟨rfl⟩
    go_wp2_with (first | (at_builtin; refine wpList_app_row (enc := fun z : Int => [Value.int .i64 z]) _ rfl _ _ 62 rfl w1.heap.size 3 i0 (.int .i64 0) 1 8 Tryz.underlying62 HI0.out.1 HI0.out.2.1 HI0.out.2.2.1 HI0.out.2.2.2 rfl (by decide) (.slice none 0 0) 0 [] rfl (World.ownsRow_nil _ _ _ _) A s cap rfl (fun x => rfl) HR1.out.1.row one_int (by unfold maxLen; omega) (by omega) (Nat.le_refl _) ?_; intro v1 w2 hown1 hg1; have HO1 : Bx (w2.ownsRow w1.heap.size 3 1 v1 s.length (intC s) ∧ AfB w w2 A s ∧ w1.heap.size ≤ w2.heap.size) := ⟨by rw [← flat_int]; simpa using hown1, HR1.out.1.step (grown_belowN hg1), (grown_belowN hg1).size⟩; clear hown1 hg1) | (at_builtin; refine wpList_append_own _ rfl _ _ 62 rfl w1.heap.size 3 i0 (.int .i64 0) 1 8 Tryz.underlying62 HI0.out.1 HI0.out.2.1 HI0.out.2.2.1 HI0.out.2.2.2 rfl (by decide) v1 s.length (intC s) rfl (HO1.out.1.alloc _) ⟨w2.heap.size, 0, none⟩ 1 1 [.int .i64 0] rfl rfl (newsI w2 _ _) (oneI _) (by unfold maxLen; omega) (by omega) (Nat.le_trans HO1.out.2.2 (below1 _ _).size) ?_; intro v3 w3 hown hg _; have HF : Bx (w3.ownsRow w1.heap.size 3 1 v3 (s.length + 1) (intC (s ++ [0])) ∧ Below w.heap.size w w3) := ⟨by rw [intC_snoc]; exact hown, HO1.out.2.1.below.trans (((below1 w2 _).mono HO1.out.2.1.below.size).trans ((grown_belowO (HO1.out.1.alloc _) (Nat.le_trans HO1.out.2.2 (below1 _ _).size) hg).mono hB1))⟩; clear hown hg) | fail)
    go_ret
    exact ⟨_, rfl, by rw [HB2.out]; exact row_newI (by simp) hB1 HF.out.1, HF.out.2⟩
  · have HB2 : Bx (aftR 6 s = s ++ [0]) := ⟨rfl⟩
    go_wp2_with (first | (at_builtin; refine wpList_app_row (enc := fun z : Int => [Value.int .i64 z]) _ rfl _ _ 62 rfl w1.heap.size 3 i0 (.int .i64 0) 1 8 Tryz.underlying62 HI0.out.1 HI0.out.2.1 HI0.out.2.2.1 HI0.out.2.2.2 rfl (by decide) (.slice none 0 0) 0 [] rfl (World.ownsRow_nil _ _ _ _) A s cap rfl (fun x => rfl) HR1.out.1.row one_int (by unfold maxLen; omega) (by omega) (Nat.le_refl _) ?_; intro v1 w2 hown1 hg1; have HO1 : Bx (w2.ownsRow w1.heap.size 3 1 v1 s.length (intC s) ∧ AfB w w2 A s ∧ w1.heap.size ≤ w2.heap.size) := ⟨by rw [← flat_int]; simpa using hown1, HR1.out.1.step (grown_belowN hg1), (grown_belowN hg1).size⟩; clear hown1 hg1) | (at_builtin; refine wpList_append_own _ rfl _ _ 62 rfl w1.heap.size 3 i0 (.int .i64 0) 1 8 Tryz.underlying62 HI0.out.1 HI0.out.2.1 HI0.out.2.2.1 HI0.out.2.2.2 rfl (by decide) v1 s.length (intC s) rfl (HO1.out.1.alloc _) ⟨w2.heap.size, 0, none⟩ 1 1 [.int .i64 0] rfl rfl (newsI w2 _ _) (oneI _) (by unfold maxLen; omega) (by omega) (Nat.le_trans HO1.out.2.2 (below1 _ _).size) ?_; intro v3 w3 hown hg _; have HF : Bx (w3.ownsRow w1.heap.size 3 1 v3 (s.length + 1) (intC (s ++ [0])) ∧ Below w.heap.size w w3) := ⟨by rw [intC_snoc]; exact hown, HO1.out.2.1.below.trans (((below1 w2 _).mono HO1.out.2.1.below.size).trans ((grown_belowO (HO1.out.1.alloc _) (Nat.le_trans HO1.out.2.2 (below1 _ _).size) hg).mono hB1))⟩; clear hown hg) | fail)
    go_ret
    exact ⟨_, rfl, by rw [HB2.out]; exact row_newI (by simp) hB1 HF.out.1, HF.out.2⟩
  · as_aux_lemma =>
      have htk := HT.out.2
      unfold takesC at htk
      simp at htk
      obtain ⟨b, off, rfl, hcells⟩ := row_one HR1.out.1.row (by omega)
      obtain ⟨e1, he1⟩ : ∃ e, s.length - 1 = e := ⟨_, rfl⟩
      obtain ⟨x1, hx1⟩ : ∃ x, s.getD e1 0 = x := ⟨_, rfl⟩
      have t1 : x1 = 0 ∨ x1 = 1 ∨ x1 = 2 := by rw [← hx1]; exact HT.out.1.get _
      have r1 : w1.drew.cell? ⟨b, off + e1, none⟩ = some (.int .i64 x1) := hcells e1 _ (by rw [← hx1, List.getD_eq_getElem?_getD, List.getElem?_eq_getElem (show e1 < s.length by omega)]; rfl)
      have r2 : w1.drew.cell? ⟨b, off + e1, none⟩ = some (.int .i64 x1) := hcells e1 _ (by rw [← hx1, List.getD_eq_getElem?_getD, List.getElem?_eq_getElem (show e1 < s.length by omega)]; rfl)
      have hs1 : (s.length : Int) - 1 = (e1 : Int) := by omega
      have hec : e1 ≤ cap := by omega
      have he1n : e1 ≤ 1000 := by omega
      have he1s : e1 < s.length := by omega
      have hw1 : IntKind.i64.wrap (e1 : Int) = (e1 : Int) := wrap_id_i64 e1 (by omega)
      have hi1 : (0 : Int) ≤ (e1 : Int) ∧ (e1 : Int) < (s.length : Int) := by omega
      have hi3 : (0 : Int) ≤ (e1 : Int) ∧ (e1 : Int) ≤ (cap : Int) := by omega
      have HTL : Bx ((s.take e1).length = e1) := ⟨by rw [List.length_take]; omega⟩
      have HX : Bx (s.length - 1 = e1 ∧ s.length - 1 = e1 ∧ s.getD e1 0 = x1 ∧ s.getD e1 0 = x1) := ⟨he1, he1, hx1, hx1⟩
      have HRD : Bx (AfB w w1.drew (some ⟨b, off, none⟩) s) := ⟨HR1.out.1.step ((Below.refl _ _).drew)⟩
      clear hcells he1 hx1 htk
      obtain ⟨y, hy⟩ : ∃ y, notT x1 = y := ⟨_, rfl⟩
      have HB2 : Bx (aftR 7 s = s.take e1 ++ [y]) := ⟨by
        rw [← hy]
        show s.take (s.length - 1) ++ [notT (s.getD (s.length - 1) 0)] = _
        rw [HX.out.1, HX.out.2.2.1]⟩
      go_wp2_with fail
      go_region_held3 (fun x => x.cell? ⟨b, off + e1, none⟩ = some (.int .i64 x1) ∧ x.cell? ⟨b, off + e1, none⟩ = some (.int .i64 x1))
        (first | exact ⟨r1, r2⟩ | assumption | (exact cellS2' (by assumption) (below1 _ _)))
        (first
          | (refine step_app_row (enc := fun z : Int => [Value.int .i64 z]) _ rfl _ _ 62 rfl w1.heap.size 3 i0 (.int .i64 0) 1 8 Tryz.underlying62 HI0.out.1 HI0.out.2.1 HI0.out.2.2.1 HI0.out.2.2.2 rfl (by decide) (.slice none 0 0) 0 [] (by simp [Act.eval, Act.put]) (World.ownsRow_nil _ _ _ _) (some ⟨b, off, none⟩) (s.take e1) cap e1 HTL.out (by simp [Act.eval, Act.put]) (fun x => rfl) (HRD.out.row.take e1) one_int (by unfold maxLen; omega) (by omega) (Nat.le_refl _) ?_; intro v1 w2 hown1 hg1; have hbb := grown_belowN hg1; have hs5 := cellS2' ⟨r1, r2⟩ hbb; rw [Nat.zero_add, List.nil_append, flat_int] at hown1; have HO1 := Bx.mk (And.intro hown1 (And.intro (HRD.out.step hbb) hbb)); clear hown1 hg1 hbb)
          | (go_at_call 88; (with_reducible refine (rnot_any x1 _ t1).mono ?_); rintro e w2 ⟨rfl, rfl⟩)
          | (refine step_app_one _ rfl _ _ 62 rfl w1.heap.size 3 i0 (.int .i64 0) 1 8 Tryz.underlying62 HI0.out.1 HI0.out.2.1 HI0.out.2.2.1 HI0.out.2.2.2 rfl (by decide) v1 e1 (intC (s.take e1)) (by simp [Act.eval, Act.put]) (HO1.out.1.alloc _) ⟨w2.heap.size, 0, none⟩ 1 [.int .i64 (y)] (by simp [Act.eval, Act.put]) rfl (newsI w2 _ _) (oneI _) (by unfold maxLen; omega) (by omega) (Nat.le_trans HO1.out.2.2.size (below1 _ _).size) ?_; intro v3 w3 hown hg; have hb3 := HO1.out.2.2.trans (((below1 w2 (.cells #[.int .i64 (y)] 3)).mono HO1.out.2.2.size).trans (grown_belowO (HO1.out.1.alloc _) (Nat.le_trans HO1.out.2.2.size (below1 _ _).size) hg)); have hs6 := cellS2' ⟨r1, r2⟩ hb3; have HF := Bx.mk (And.intro hown (HRD.out.below.trans (hb3.mono hB1))); clear hb3 hown hg))
      have hfin := HF.out.1
      rw [← intC_snoc] at hfin
      have HF2 : Bx _ := ⟨And.intro hfin HF.out.2⟩
      clear hfin hs5 hs6
      go_wp2_with fail
      go_ret
      exact ⟨_, rfl, by rw [HB2.out]; exact row_newI (by rw [List.length_append, HTL.out]; rfl) hB1 HF2.out.1, HF2.out.2⟩
  · as_aux_lemma =>
      have htk := HT.out.2
      unfold takesC at htk
      simp at htk
      obtain ⟨b, off, rfl, hcells⟩ := row_one HR1.out.1.row (by omega)
      obtain ⟨e1, he1⟩ : ∃ e, s.length - 1 = e := ⟨_, rfl⟩
      obtain ⟨e2, he2⟩ : ∃ e, s.length - 2 = e := ⟨_, rfl⟩
      obtain ⟨x1, hx1⟩ : ∃ x, s.getD e1 0 = x := ⟨_, rfl⟩
      obtain ⟨x2, hx2⟩ : ∃ x, s.getD e2 0 = x := ⟨_, rfl⟩
      have t1 : x1 = 0 ∨ x1 = 1 ∨ x1 = 2 := by rw [← hx1]; exact HT.out.1.get _
      have t2 : x2 = 0 ∨ x2 = 1 ∨ x2 = 2 := by rw [← hx2]; exact HT.out.1.get _
      have r1 : w1.drew.cell? ⟨b, off + e1, none⟩ = some (.int .i64 x1) := hcells e1 _ (by rw [← hx1, List.getD_eq_getElem?_getD, List.getElem?_eq_getElem (show e1 < s.length by omega)]; rfl)
      have r2 : w1.drew.cell? ⟨b, off + e2, none⟩ = some (.int .i64 x2) := hcells e2 _ (by rw [← hx2, List.getD_eq_getElem?_getD, List.getElem?_eq_getElem (show e2 < s.length by omega)]; rfl)
      have hs1 : (s.length : Int) - 1 = (e1 : Int) := by omega
      have hs2 : (s.length : Int) - 2 = (e2 : Int) := by omega
      have hec : e2 ≤ cap := by omega
      have he2n : e2 ≤ 1000 := by omega
      have he1n : e1 ≤ 1000 := by omega
      have he1s : e1 < s.length := by omega
      have he2s : e2 < s.length := by omega
      have hw1 : IntKind.i64.wrap (e1 : Int) = (e1 : Int) := wrap_id_i64 e1 (by omega)
      have hw2 : IntKind.i64.wrap (e2 : Int) = (e2 : Int) := wrap_id_i64 e2 (by omega)
      have hi1 : (0 : Int) ≤ (e1 : Int) ∧ (e1 : Int) < (s.length : Int) := by omega
      have hi2 : (0 : Int) ≤ (e2 : Int) ∧ (e2 : Int) < (s.length : Int) := by omega
      have hi3 : (0 : Int) ≤ (e2 : Int) ∧ (e2 : Int) ≤ (cap : Int) := by omega
      have HTL : Bx ((s.take e2).length = e2) := ⟨by rw [List.length_take]; omega⟩
      have HX : Bx (s.length - 1 = e1 ∧ s.length - 2 = e2 ∧ s.getD e1 0 = x1 ∧ s.getD e2 0 = x2) := ⟨he1, he2, hx1, hx2⟩
      have HRD : Bx (AfB w w1.drew (some ⟨b, off, none⟩) s) := ⟨HR1.out.1.step ((Below.refl _ _).drew)⟩
      clear hcells he1 he2 hx1 hx2 htk
      obtain ⟨y, hy⟩ : ∃ y, bothR x2 x1 = y := ⟨_, rfl⟩
      have HB2 : Bx (aftR 8 s = s.take e2 ++ [y]) := ⟨by
        rw [← hy]
        show s.take (s.length - 2) ++ [bothR (s.getD (s.length - 2) 0) (s.getD (s.length - 1) 0)] = _
        rw [HX.out.1, HX.out.2.1, HX.out.2.2.2, HX.out.2.2.1]⟩
      go_wp2_with fail
      go_region_held3 (fun x => x.cell? ⟨b, off + e1, none⟩ = some (.int .i64 x1) ∧ x.cell? ⟨b, off + e2, none⟩ = some (.int .i64 x2))
        (first | exact ⟨r1, r2⟩ | assumption | (exact cellS2' (by assumption) (below1 _ _)))
        (first
          | (refine step_app_row (enc := fun z : Int => [Value.int .i64 z]) _ rfl _ _ 62 rfl w1.heap.size 3 i0 (.int .i64 0) 1 8 Tryz.underlying62 HI0.out.1 HI0.out.2.1 HI0.out.2.2.1 HI0.out.2.2.2 rfl (by decide) (.slice none 0 0) 0 [] (by simp [Act.eval, Act.put]) (World.ownsRow_nil _ _ _ _) (some ⟨b, off, none⟩) (s.take e2) cap e2 HTL.out (by simp [Act.eval, Act.put]) (fun x => rfl) (HRD.out.row.take e2) one_int (by unfold maxLen; omega) (by omega) (Nat.le_refl _) ?_; intro v1 w2 hown1 hg1; have hbb := grown_belowN hg1; have hs5 := cellS2' ⟨r1, r2⟩ hbb; rw [Nat.zero_add, List.nil_append, flat_int] at hown1; have HO1 := Bx.mk (And.intro hown1 (And.intro (HRD.out.step hbb) hbb)); clear hown1 hg1 hbb)
          | (go_at_call 89; (with_reducible refine (rboth_any x2 x1 _ t2 t1).mono ?_); rintro e w2 ⟨rfl, rfl⟩)
          | (refine step_app_one _ rfl _ _ 62 rfl w1.heap.size 3 i0 (.int .i64 0) 1 8 Tryz.underlying62 HI0.out.1 HI0.out.2.1 HI0.out.2.2.1 HI0.out.2.2.2 rfl (by decide) v1 e2 (intC (s.take e2)) (by simp [Act.eval, Act.put]) (HO1.out.1.alloc _) ⟨w2.heap.size, 0, none⟩ 1 [.int .i64 (y)] (by simp [Act.eval, Act.put]) rfl (newsI w2 _ _) (oneI _) (by unfold maxLen; omega) (by omega) (Nat.le_trans HO1.out.2.2.size (below1 _ _).size) ?_; intro v3 w3 hown hg; have hb3 := HO1.out.2.2.trans (((below1 w2 (.cells #[.int .i64 (y)] 3)).mono HO1.out.2.2.size).trans (grown_belowO (HO1.out.1.alloc _) (Nat.le_trans HO1.out.2.2.size (below1 _ _).size) hg)); have hs6 := cellS2' ⟨r1, r2⟩ hb3; have HF := Bx.mk (And.intro hown (HRD.out.below.trans (hb3.mono hB1))); clear hb3 hown hg))
      have hfin := HF.out.1
      rw [← intC_snoc] at hfin
      have HF2 : Bx _ := ⟨And.intro hfin HF.out.2⟩
      clear hfin hs5 hs6
      go_wp2_with fail
      go_ret
      exact ⟨_, rfl, by rw [HB2.out]; exact row_newI (by rw [List.length_append, HTL.out]; rfl) hB1 HF2.out.1, HF2.out.2⟩
  · as_aux_lemma =>
      have htk := HT.out.2
      unfold takesC at htk
      simp at htk
      obtain ⟨b, off, rfl, hcells⟩ := row_one HR1.out.1.row (by omega)
      obtain ⟨e1, he1⟩ : ∃ e, s.length - 1 = e := ⟨_, rfl⟩
      obtain ⟨e2, he2⟩ : ∃ e, s.length - 2 = e := ⟨_, rfl⟩
      obtain ⟨x1, hx1⟩ : ∃ x, s.getD e1 0 = x := ⟨_, rfl⟩
      obtain ⟨x2, hx2⟩ : ∃ x, s.getD e2 0 = x := ⟨_, rfl⟩
      have t1 : x1 = 0 ∨ x1 = 1 ∨ x1 = 2 := by rw [← hx1]; exact HT.out.1.get _
      have t2 : x2 = 0 ∨ x2 = 1 ∨ x2 = 2 := by rw [← hx2]; exact HT.out.1.get _
      have r1 : w1.drew.cell? ⟨b, off + e1, none⟩ = some (.int .i64 x1) := hcells e1 _ (by rw [← hx1, List.getD_eq_getElem?_getD, List.getElem?_eq_getElem (show e1 < s.length by omega)]; rfl)
      have r2 : w1.drew.cell? ⟨b, off + e2, none⟩ = some (.int .i64 x2) := hcells e2 _ (by rw [← hx2, List.getD_eq_getElem?_getD, List.getElem?_eq_getElem (show e2 < s.length by omega)]; rfl)
      have hs1 : (s.length : Int) - 1 = (e1 : Int) := by omega
      have hs2 : (s.length : Int) - 2 = (e2 : Int) := by omega
      have hec : e2 ≤ cap := by omega
      have he2n : e2 ≤ 1000 := by omega
      have he1n : e1 ≤ 1000 := by omega
      have he1s : e1 < s.length := by omega
      have he2s : e2 < s.length := by omega
      have hw1 : IntKind.i64.wrap (e1 : Int) = (e1 : Int) := wrap_id_i64 e1 (by omega)
      have hw2 : IntKind.i64.wrap (e2 : Int) = (e2 : Int) := wrap_id_i64 e2 (by omega)
      have hi1 : (0 : Int) ≤ (e1 : Int) ∧ (e1 : Int) < (s.length : Int) := by omega
      have hi2 : (0 : Int) ≤ (e2 : Int) ∧ (e2 : Int) < (s.length : Int) := by omega
      have hi3 : (0 : Int) ≤ (e2 : Int) ∧ (e2 : Int) ≤ (cap : Int) := by omega
      have HTL : Bx ((s.take e2).length = e2) := ⟨by rw [List.length_take]; omega⟩
      have HX : Bx (s.length - 1 = e1 ∧ s.length - 2 = e2 ∧ s.getD e1 0 = x1 ∧ s.getD e2 0 = x2) := ⟨he1, he2, hx1, hx2⟩
      have HRD : Bx (AfB w w1.drew (some ⟨b, off, none⟩) s) := ⟨HR1.out.1.step ((Below.refl _ _).drew)⟩
      clear hcells he1 he2 hx1 hx2 htk
      obtain ⟨y, hy⟩ : ∃ y, notT (bothR (notT x2) (notT x1)) = y := ⟨_, rfl⟩
      have HB2 : Bx (aftR 9 s = s.take e2 ++ [y]) := ⟨by
        rw [← hy]
        show s.take (s.length - 2) ++ [notT (bothR (notT (s.getD (s.length - 2) 0)) (notT (s.getD (s.length - 1) 0)))] = _
        rw [HX.out.1, HX.out.2.1, HX.out.2.2.2, HX.out.2.2.1]⟩
      go_wp2_with fail
      go_region_held3 (fun x => x.cell? ⟨b, off + e1, none⟩ = some (.int .i64 x1) ∧ x.cell? ⟨b, off + e2, none⟩ = some (.int .i64 x2))
        (first | exact ⟨r1, r2⟩ | assumption | (exact cellS2' (by assumption) (below1 _ _)))
        (first
          | (refine step_app_row (enc := fun z : Int => [Value.int .i64 z]) _ rfl _ _ 62 rfl w1.heap.size 3 i0 (.int .i64 0) 1 8 Tryz.underlying62 HI0.out.1 HI0.out.2.1 HI0.out.2.2.1 HI0.out.2.2.2 rfl (by decide) (.slice none 0 0) 0 [] (by simp [Act.eval, Act.put]) (World.ownsRow_nil _ _ _ _) (some ⟨b, off, none⟩) (s.take e2) cap e2 HTL.out (by simp [Act.eval, Act.put]) (fun x => rfl) (HRD.out.row.take e2) one_int (by unfold maxLen; omega) (by omega) (Nat.le_refl _) ?_; intro v1 w2 hown1 hg1; have hbb := grown_belowN hg1; have hs5 := cellS2' ⟨r1, r2⟩ hbb; rw [Nat.zero_add, List.nil_append, flat_int] at hown1; have HO1 := Bx.mk (And.intro hown1 (And.intro (HRD.out.step hbb) hbb)); clear hown1 hg1 hbb)
          | (go_at_call 88; (with_reducible refine (rnot_any x2 _ t2).mono ?_); rintro e w2 ⟨rfl, rfl⟩)
          | (go_at_call 88; (with_reducible refine (rnot_any x1 _ t1).mono ?_); rintro e w2 ⟨rfl, rfl⟩)
          | (go_at_call 89; (with_reducible refine (rboth_any (notT x2) (notT x1) _ (notT_thr _) (notT_thr _)).mono ?_); rintro e w2 ⟨rfl, rfl⟩)
          | (go_at_call 88; (with_reducible refine (rnot_any (bothR (notT x2) (notT x1)) _ (both_thr _ _)).mono ?_); rintro e w2 ⟨rfl, rfl⟩)
          | (refine step_app_one _ rfl _ _ 62 rfl w1.heap.size 3 i0 (.int .i64 0) 1 8 Tryz.underlying62 HI0.out.1 HI0.out.2.1 HI0.out.2.2.1 HI0.out.2.2.2 rfl (by decide) v1 e2 (intC (s.take e2)) (by simp [Act.eval, Act.put]) (HO1.out.1.alloc _) ⟨w2.heap.size, 0, none⟩ 1 [.int .i64 (y)] (by simp [Act.eval, Act.put]) rfl (newsI w2 _ _) (oneI _) (by unfold maxLen; omega) (by omega) (Nat.le_trans HO1.out.2.2.size (below1 _ _).size) ?_; intro v3 w3 hown hg; have hb3 := HO1.out.2.2.trans (((below1 w2 (.cells #[.int .i64 (y)] 3)).mono HO1.out.2.2.size).trans (grown_belowO (HO1.out.1.alloc _) (Nat.le_trans HO1.out.2.2.size (below1 _ _).size) hg)); have hs6 := cellS2' ⟨r1, r2⟩ hb3; have HF := Bx.mk (And.intro hown (HRD.out.below.trans (hb3.mono hB1))); clear hb3 hown hg))
      have hfin := HF.out.1
      rw [← intC_snoc] at hfin
      have HF2 : Bx _ := ⟨And.intro hfin HF.out.2⟩
      clear hfin hs5 hs6
      go_wp2_with fail
      go_ret
      exact ⟨_, rfl, by rw [HB2.out]; exact row_newI (by rw [List.length_append, HTL.out]; rfl) hB1 HF2.out.1, HF2.out.2⟩
  · go_wp2_with (first | (at_builtin; refine wpList_app_row (enc := fun z : Int => [Value.int .i64 z]) _ rfl _ _ 62 rfl w1.heap.size 3 i0 (.int .i64 0) 1 8 Tryz.underlying62 HI0.out.1 HI0.out.2.1 HI0.out.2.2.1 HI0.out.2.2.2 rfl (by decide) (.slice none 0 0) 0 [] rfl (World.ownsRow_nil _ _ _ _) A s cap rfl (fun x => rfl) HR1.out.1.row one_int (by unfold maxLen; omega) (by omega) (Nat.le_refl _) ?_; intro v1 w2 hown1 hg1; have HO1 : Bx (w2.ownsRow w1.heap.size 3 1 v1 s.length (intC s) ∧ AfB w w2 A s ∧ w1.heap.size ≤ w2.heap.size) := ⟨by rw [← flat_int]; simpa using hown1, HR1.out.1.step (grown_belowN hg1), (grown_belowN hg1).size⟩; clear hown1 hg1) | fail)
    go_ret
    exact ⟨_, rfl, row_newI rfl hB1 HO1.out.1, HO1.out.2.1.below⟩
  · go_wp2_with (first | (at_builtin; refine wpList_app_row (enc := fun z : Int => [Value.int .i64 z]) _ rfl _ _ 62 rfl w1.heap.size 3 i0 (.int .i64 0) 1 8 Tryz.underlying62 HI0.out.1 HI0.out.2.1 HI0.out.2.2.1 HI0.out.2.2.2 rfl (by decide) (.slice none 0 0) 0 [] rfl (World.ownsRow_nil _ _ _ _) A s cap rfl (fun x => rfl) HR1.out.1.row one_int (by unfold maxLen; omega) (by omega) (Nat.le_refl _) ?_; intro v1 w2 hown1 hg1; have HO1 : Bx (w2.ownsRow w1.heap.size 3 1 v1 s.length (intC s) ∧ AfB w w2 A s ∧ w1.heap.size ≤ w2.heap.size) := ⟨by rw [← flat_int]; simpa using hown1, HR1.out.1.step (grown_belowN hg1), (grown_belowN hg1).size⟩; clear hown1 hg1) | fail)
    go_ret
    exact ⟨_, rfl, row_newI rfl hB1 HO1.out.1, HO1.out.2.1.below⟩
  · have htk := HT.out.2
    unfold takesC at htk
    simp at htk
    obtain ⟨b, off, rfl, _⟩ := row_one HR1.out.1.row (by omega)
    obtain ⟨e2, he2⟩ : ∃ e, s.length - 1 = e := ⟨_, rfl⟩
    have hs2 : (s.length : Int) - 1 = (e2 : Int) := by omega
    have hec : e2 ≤ cap := by omega
    have he2n : e2 ≤ 1000 := by omega
    have htl : (s.take e2).length = e2 := by rw [List.length_take]; omega
    have HB2 : Bx (aftR 12 s = s.take e2) := ⟨by rw [← he2]; rfl⟩
    have HTL : Bx _ := ⟨htl⟩
    clear htl htk he2
    go_wp2_with (first | (at_builtin; refine wpList_app_rowk (enc := fun z : Int => [Value.int .i64 z]) _ rfl _ _ 62 rfl w1.heap.size 3 i0 (.int .i64 0) 1 8 Tryz.underlying62 HI0.out.1 HI0.out.2.1 HI0.out.2.2.1 HI0.out.2.2.2 rfl (by decide) (.slice none 0 0) 0 [] rfl (World.ownsRow_nil _ _ _ _) (some ⟨b, off, none⟩) (s.take e2) cap e2 HTL.out rfl (fun x => rfl) (HR1.out.1.row.take e2) one_int (by unfold maxLen; omega) (by omega) (Nat.le_refl _) ?_; intro v1 w2 hown1 hg1; have HO1 : Bx (w2.ownsRow w1.heap.size 3 1 v1 e2 (intC (s.take e2)) ∧ AfB w w2 (some ⟨b, off, none⟩) s) := ⟨by rw [← flat_int]; simpa using hown1, HR1.out.1.step (grown_belowN hg1)⟩; clear hown1 hg1) | fail)
    go_ret
    exact ⟨_, rfl, by rw [HB2.out]; exact row_newI HTL.out hB1 HO1.out.1, HO1.out.2.below⟩
  · have htk := HT.out.2
    unfold takesC at htk
    simp at htk
    obtain ⟨b, off, rfl, _⟩ := row_one HR1.out.1.row (by omega)
    obtain ⟨e2, he2⟩ : ∃ e, s.length - 1 = e := ⟨_, rfl⟩
    have hs2 : (s.length : Int) - 1 = (e2 : Int) := by omega
    have hec : e2 ≤ cap := by omega
    have he2n : e2 ≤ 1000 := by omega
    have htl : (s.take e2).length = e2 := by rw [List.length_take]; omega
    have HB2 : Bx (aftR 13 s = s.take e2) := ⟨by rw [← he2]; rfl⟩
    have HTL : Bx _ := ⟨htl⟩
    clear htl htk he2
    go_wp2_with (first | (at_builtin; refine wpList_app_rowk (enc := fun z : Int => [Value.int .i64 z]) _ rfl _ _ 62 rfl w1.heap.size 3 i0 (.int .i64 0) 1 8 Tryz.underlying62 HI0.out.1 HI0.out.2.1 HI0.out.2.2.1 HI0.out.2.2.2 rfl (by decide) (.slice none 0 0) 0 [] rfl (World.ownsRow_nil _ _ _ _) (some ⟨b, off, none⟩) (s.take e2) cap e2 HTL.out rfl (fun x => rfl) (HR1.out.1.row.take e2) one_int (by unfold maxLen; omega) (by omega) (Nat.le_refl _) ?_; intro v1 w2 hown1 hg1; have HO1 : Bx (w2.ownsRow w1.heap.size 3 1 v1 e2 (intC (s.take e2)) ∧ AfB w w2 (some ⟨b, off, none⟩) s) := ⟨by rw [← flat_int]; simpa using hown1, HR1.out.1.step (grown_belowN hg1)⟩; clear hown1 hg1) | fail)
    go_ret
    exact ⟨_, rfl, by rw [HB2.out]; exact row_newI HTL.out hB1 HO1.out.1, HO1.out.2.below⟩
end
section
open Go.RowKit
/-- what stands at i -/
def joinAt (come : Bool) (a b : List Int) (i : Nat) : Int := if (come && (a.getD i 0 != b.getD i 0)) = true then 0 else b.getD i 0
theorem joinR_take (come : Bool) (a b : List Int) (k : Nat) (hk : k < b.length) : (joinR come a b).take (k + 1) = (joinR come a b).take k ++ [joinAt come a b k] := by
  have hl : k < (joinR come a b).length := by unfold joinR; simpa using hk
  rw [List.take_succ_eq_append_getElem hl]
  congr 1
  unfold joinR joinAt
  simp
theorem joinR_len (come : Bool) (a b : List Int) : (joinR come a b).length = b.length := by unfold joinR; simp
structure JnB (w wr : World) (A B : Option Addr) (a b : List Int) (v : Value) (k : Nat) (come : Bool) : Prop where
  below : Below w.heap.size w wr
  ra : I64L wr A a
  rb : I64L wr B b
  own : wr.ownsRow w.heap.size 3 1 v k (intC ((joinR come a b).take k))
theorem JnB.step {w wr w' : World} {A B : Option Addr} {a b : List Int} {v : Value} {k : Nat} {come : Bool} (h : JnB w wr A B a b v k come) (hb : Below wr.heap.size wr w') : JnB w w' A B a b v k come :=
  ⟨h.below.trans (hb.mono h.below.size), h.ra.below hb, h.rb.below hb, own_below h.own hb⟩
/-- rows that were there ahead stay, if only one's own row turns -/
theorem row_keeps {w wr w' : World} {A : Option Addr} {l : List Int} (h0 : I64L w A l) (hb : Below w.heap.size w w') : I64L w' A l := h0.below hb
set_option maxHeartbeats 4000000 in
set_option maxRecDepth 100000 in
theorem joined_any (come : Bool) (A B : Option Addr) (a b : List Int) (ca cb : Nat) (w : World) (ha : I64L w A a) (hb : I64L w B b) (hl : come = true → a.length = b.length) (hs : b.length ≤ 1000) (han : a.length ≤ 1000) :
    Calls Tryz.prog 65 #[.bool come, .slice A a.length ca, .slice B b.length cb] w fun e w' => ∃ v, e = .returned v ∧ NewR w' w.heap.size v (joinR come a b) ∧ Below w.heap.size w w' := by
  obtain ⟨i0, hi, hiz, hi1, hi2⟩ := info_parts (show (Tryz.prog.info? 3).map (fun i => (i.zero, i.size, i.bytes)) = some (some (.int .i64 0), 1, 8) by kernel_rfl)
  have HI0 : Bx (Tryz.prog.info? 3 = some i0 ∧ i0.zero = some (.int .i64 0) ∧ i0.size = 1 ∧ i0.bytes = 8) := ⟨hi, hiz, hi1, hi2⟩
  have HR : Bx _ := ⟨And.intro ha (And.intro hb hl)⟩
  clear hi hiz hi1 hi2 ha hb hl
  go_enter Tryz.func65, Tryz.ntmps65
  go_wp2_with fail
  go_loopw [7, 8] (fun o i wr => ∃ k : Nat, k ≤ b.length ∧ i = .int .i64 (k : Int) ∧ Bx (JnB w wr A B a b o k come)) (fun _ i _ => b.length - (intOf i).toNat)
  case atStart => exact ⟨0, by omega, rfl, ⟨Below.refl _ _, HR.out.1, HR.out.2.1, World.ownsRow_nil _ _ _ _⟩⟩
  case round =>
    obtain ⟨k, hk, rfl, HJ⟩ := hrel
    by_cases hlt : k < b.length
    · obtain ⟨b2, o2, rfl, hc2⟩ := row_one HJ.out.rb (by omega)
      obtain ⟨y, hy⟩ : ∃ y, b.getD k 0 = y := ⟨_, rfl⟩
      have r2 : wr.cell? ⟨b2, o2 + k, none⟩ = some (.int .i64 y) := hc2 k _ (by rw [← hy, List.getD_eq_getElem?_getD, List.getElem?_eq_getElem hlt]; rfl)
      clear hc2
      have q2 := cell_regrown r2
      cases come
      · have HYZ : Bx (True ∧ joinAt false a b k = y) := ⟨trivial, by unfold joinAt; rw [Bool.false_and, if_neg (by simp)]; exact hy⟩
        have HN : Bx (∀ w' v, Below w.heap.size w w' → w'.ownsRow w.heap.size 3 1 v (k + 1) (intC ((joinR false a b).take k) ++ [.int .i64 (joinAt false a b k)]) → JnB w w' A (some ⟨b2, o2, none⟩) a b v (k + 1) false) := ⟨fun w' v h1 h2 => ⟨h1, HR.out.1.below h1, HR.out.2.1.below h1, by rw [joinR_take _ _ _ _ hlt, intC_snoc]; exact h2⟩⟩
        clear hy
        go_upto_region 6 with (fail)
        clear r2
        refine wp_region_quiet_below (by kernel_rfl) (by kernel_rfl) ?_
        repeat (go_big_quiet_step (fail))
        refine wpQuiet_nil ?_
        intro _ hw'
        obtain ⟨⟨dq, osq⟩, hw''⟩ := hw'
        subst hw''
        have HJ2 : Bx _ := ⟨HJ.out.step (below_regrown wr dq osq)⟩
        generalize Go.Sort.grow (redrawn wr dq) osq = w2 at *
        clear q2
        go_wp2_with (first | (at_builtin; refine wpList_append_own _ rfl _ _ 62 rfl w.heap.size 3 i0 (.int .i64 0) 1 8 Tryz.underlying62 HI0.out.1 HI0.out.2.1 HI0.out.2.2.1 HI0.out.2.2.2 rfl (by decide) u7 k (intC ((joinR false a b).take k)) rfl (HJ2.out.own.alloc _) ⟨w2.heap.size, 0, none⟩ 1 1 [.int .i64 y] rfl rfl (newsI w2 _ _) (oneI _) (by unfold maxLen; omega) (by omega) (Nat.le_trans HJ2.out.below.size (below1 _ _).size) ?_; intro v3 w3 hown hg _; have HF : Bx (JnB w w3 A (some ⟨b2, o2, none⟩) a b v3 (k + 1) false) := ⟨HN.out _ _ (HJ2.out.below.trans (((below1 w2 (.cells #[.int .i64 y] 3)).mono HJ2.out.below.size).trans (grown_belowO (HJ2.out.own.alloc _) (Nat.le_trans HJ2.out.below.size (below1 _ _).size) hg))) (by rw [HYZ.out.2]; exact hown)⟩; clear hown hg) | fail)
        exact ⟨⟨k + 1, by omega, by rw [Int.natCast_succ], HF⟩, by simp only [intOf]; omega⟩
      · have hla : k < a.length := by rw [HR.out.2.2 rfl]; exact hlt
        obtain ⟨b1, o1, rfl, hc1⟩ := row_one HJ.out.ra (by omega)
        obtain ⟨x, hx⟩ : ∃ x, a.getD k 0 = x := ⟨_, rfl⟩
        have r1 : wr.cell? ⟨b1, o1 + k, none⟩ = some (.int .i64 x) := hc1 k _ (by rw [← hx, List.getD_eq_getElem?_getD, List.getElem?_eq_getElem hla]; rfl)
        have q1 := cell_regrown r1
        clear hc1
        obtain ⟨E, hE⟩ : ∃ E, (x != y) = E := ⟨_, rfl⟩
        have hE2 : (!(x == y)) = E := hE
        have hz0 : joinAt true a b k = if E then 0 else y := by unfold joinAt; rw [Bool.true_and, hx, hy, hE]
        have HN : Bx (∀ w' v, Below w.heap.size w w' → w'.ownsRow w.heap.size 3 1 v (k + 1) (intC ((joinR true a b).take k) ++ [.int .i64 (joinAt true a b k)]) → JnB w w' (some ⟨b1, o1, none⟩) (some ⟨b2, o2, none⟩) a b v (k + 1) true) := ⟨fun w' v h1 h2 => ⟨h1, HR.out.1.below h1, HR.out.2.1.below h1, by rw [joinR_take _ _ _ _ hlt, intC_snoc]; exact h2⟩⟩
        have HZ0 : Bx _ := ⟨hz0⟩
        clear hx hy hz0
        go_upto_region 6 with (fail)
        clear r1 r2
        refine wp_region_quiet_below (by kernel_rfl) (by kernel_rfl) ?_
        repeat (go_big_quiet_step (fail))
        refine wpQuiet_nil ?_
        intro _ hw'
        obtain ⟨⟨dq, osq⟩, hw''⟩ := hw'
        subst hw''
        have HJ2 : Bx _ := ⟨HJ.out.step (below_regrown wr dq osq)⟩
        generalize Go.Sort.grow (redrawn wr dq) osq = w2 at *
        clear q1 q2 hE
        cases E
        · have HYZ : Bx (True ∧ joinAt true a b k = y) := ⟨trivial, HZ0.out⟩
          go_wp2_with (first | (at_builtin; refine wpList_append_own _ rfl _ _ 62 rfl w.heap.size 3 i0 (.int .i64 0) 1 8 Tryz.underlying62 HI0.out.1 HI0.out.2.1 HI0.out.2.2.1 HI0.out.2.2.2 rfl (by decide) u7 k (intC ((joinR true a b).take k)) rfl (HJ2.out.own.alloc _) ⟨w2.heap.size, 0, none⟩ 1 1 [.int .i64 y] rfl rfl (newsI w2 _ _) (oneI _) (by unfold maxLen; omega) (by omega) (Nat.le_trans HJ2.out.below.size (below1 _ _).size) ?_; intro v3 w3 hown hg _; have HF : Bx (JnB w w3 (some ⟨b1, o1, none⟩) (some ⟨b2, o2, none⟩) a b v3 (k + 1) true) := ⟨HN.out _ _ (HJ2.out.below.trans (((below1 w2 (.cells #[.int .i64 y] 3)).mono HJ2.out.below.size).trans (grown_belowO (HJ2.out.own.alloc _) (Nat.le_trans HJ2.out.below.size (below1 _ _).size) hg))) (by rw [HYZ.out.2]; exact hown)⟩; clear hown hg) | fail)
          exact ⟨⟨k + 1, by omega, by rw [Int.natCast_succ], HF⟩, by simp only [intOf]; omega⟩
        · have HYZ : Bx (True ∧ joinAt true a b k = 0) := ⟨trivial, HZ0.out⟩
          go_wp2_with (first | (at_builtin; refine wpList_append_own _ rfl _ _ 62 rfl w.heap.size 3 i0 (.int .i64 0) 1 8 Tryz.underlying62 HI0.out.1 HI0.out.2.1 HI0.out.2.2.1 HI0.out.2.2.2 rfl (by decide) u7 k (intC ((joinR true a b).take k)) rfl (HJ2.out.own.alloc _) ⟨w2.heap.size, 0, none⟩ 1 1 [.int .i64 0] rfl rfl (newsI w2 _ _) (oneI _) (by unfold maxLen; omega) (by omega) (Nat.le_trans HJ2.out.below.size (below1 _ _).size) ?_; intro v3 w3 hown hg _; have HF : Bx (JnB w w3 (some ⟨b1, o1, none⟩) (some ⟨b2, o2, none⟩) a b v3 (k + 1) true) := ⟨HN.out _ _ (HJ2.out.below.trans (((below1 w2 (.cells #[.int .i64 0] 3)).mono HJ2.out.below.size).trans (grown_belowO (HJ2.out.own.alloc _) (Nat.le_trans HJ2.out.below.size (below1 _ _).size) hg))) (by rw [HYZ.out.2]; exact hown)⟩; clear hown hg) | fail)
          exact ⟨⟨k + 1, by omega, by rw [Int.natCast_succ], HF⟩, by simp only [intOf]; omega⟩
    · have hkb : k = b.length := by omega
      subst hkb
      go_wp2_with fail
      go_ret
      refine ⟨_, rfl, ?_, HJ.out.below⟩
      have h := HJ.out.own
      rw [List.take_of_length_le (by rw [joinR_len]; exact Nat.le_refl _)] at h
      exact row_newI (joinR_len _ _ _) (Nat.le_refl _) h
end
section
open Go.RowKit
/-- a row laid as it stands -/
theorem lit_new (w : World) (l : List Int) (T : TypeId) (hl : l.length ≤ 9223372036854775807) : NewR (w.alloc (.cells (intC l).toArray T)) w.heap.size (.slice (some ⟨w.heap.size, 0, none⟩) l.length l.length) l := by
  refine ⟨_, _, rfl, ⟨fun hp => ⟨w.heap.size, 0, rfl, fun i x hx j v hj => ?_⟩, hl⟩, fun b off e => by injection e with e; injection e with e; omega, Nat.le_refl _⟩
  cases j with
  | zero =>
    simp at hj
    subst hj
    have h := CB.at (CB.new w (intC l).toArray T) i (.int .i64 x) (by unfold intC; simp [hx])
    simpa using h
  | succ j => simp at hj
theorem nil_new (w : World) (S : Nat) : NewR w S (.slice none 0 0) [] := ⟨none, 0, rfl, RowL.nil, fun b off e => (by cases e), Nat.le_refl _⟩
set_option maxHeartbeats 4000000 in
set_option maxRecDepth 100000 in
theorem ways_any (A B : Option Addr) (L : List InsD) (cap n : Nat) (i : InsD) (s : List Int) (cb : Nat) (w : World) (hL : InsL w A L) (hi : L[n]? = some i) (hLl : L.length ≤ 65536) (hs : I64L w B s) (hsn : s.length ≤ 1000) (ht : Thr s) (hc : i.c ≤ 13) (hj : jumpC i.c = true → 0 < s.length) :
    Calls Tryz.prog 63 #[.slice A L.length cap, .int .i64 (n : Int), .slice B s.length cb] w fun e w' => ∃ v, e = .returned v ∧ NewR w' w.heap.size v (waysR i n L.length s) ∧ Below w.heap.size w w' := by
  have hlt : n < L.length := (List.getElem?_eq_some_iff.1 hi).1
  obtain ⟨b, off, rfl, hrow⟩ := hL.row (by omega)
  have a0 : w.cell? ⟨b, off + n * 3, none⟩ = some (.int .u8 (i.c : Int)) := hrow n i hi 0 _ rfl
  have a1 : w.cell? ⟨b, off + n * 3 + 1, none⟩ = some (.int .i64 i.a) := hrow n i hi 1 _ rfl
  obtain ⟨c, ia, ib⟩ := i
  simp only [] at a0 a1 hc hj
  clear hrow hL hi
  by_cases hjc : jumpC c = true
  · obtain ⟨b2, o2, rfl, hc2⟩ := row_one hs (hj hjc)
    have hp := hj hjc
    obtain ⟨e1, he1⟩ : ∃ e, s.length - 1 = e := ⟨_, rfl⟩
    obtain ⟨x1, hx1⟩ : ∃ x, s.getD e1 0 = x := ⟨_, rfl⟩
    have r1 : w.cell? ⟨b2, o2 + e1, none⟩ = some (.int .i64 x1) := hc2 e1 _ (by rw [← hx1, List.getD_eq_getElem?_getD, List.getElem?_eq_getElem (show e1 < s.length by omega)]; rfl)
    have hs1 : (s.length : Int) - 1 = (e1 : Int) := by omega
    have he1n : e1 ≤ 1000 := by omega
    have he1s : e1 < s.length := by omega
    have htop : topT s = x1 := by unfold topT; rw [if_pos hp, he1, hx1]
    have hx3 : x1 = 0 ∨ x1 = 1 ∨ x1 = 2 := by rw [← hx1]; exact ht.get _
    have HW : Bx (waysR ⟨c, ia, ib⟩ n L.length s = if (if c = 11 then notT x1 else x1) = 1 then [ia] else if (if c = 11 then notT x1 else x1) = 2 then [(n : Int) + 1] else [(n : Int) + 1, ia]) := ⟨by unfold waysR; rw [if_pos hjc, htop]⟩
    have HL1 : ∀ (w' : World) (x : Int), Bx (NewR (w'.alloc (.cells #[.int .i64 x] 62)) w'.heap.size (.slice (some ⟨w'.heap.size, 0, none⟩) 1 1) [x]) := fun w' x => ⟨lit_new w' [x] _ (by simp)⟩
    have hcc : c = 10 ∨ c = 11 := by unfold jumpC at hjc; simpa using hjc
    clear hc2 he1 hx1 htop hs ht hj hjc hp
    rcases hcc with rfl | rfl
    · rcases hx3 with rfl | rfl | rfl
      all_goals
        go_enter Tryz.func63, Tryz.ntmps63
        go_wp2
        go_ret
        exact ⟨_, rfl, by rw [HW.out]; first | exact lit_new w [ia] _ (by simp) | exact lit_new w [(n : Int) + 1] _ (by simp) | exact lit_new w [(n : Int) + 1, ia] _ (by simp), below1 _ _⟩
    · rcases hx3 with rfl | rfl | rfl
      all_goals
        go_enter Tryz.func63, Tryz.ntmps63
        go_wp2_with fail
        refine (rnot_any _ _ (by decide)).mono ?_
        rintro e w1 ⟨rfl, rfl⟩
        have e0 : notT 0 = 0 := rfl
        have e1 : notT 1 = 2 := rfl
        have e2 : notT 2 = 1 := rfl
        simp only [e0, e1, e2]
        go_wp2
        go_ret
        exact ⟨_, rfl, by rw [HW.out]; first | exact lit_new w1 [ia] _ (by simp) | exact lit_new w1 [(n : Int) + 1] _ (by simp) | exact lit_new w1 [(n : Int) + 1, ia] _ (by simp), below1 _ _⟩
  · have hjf : jumpC c = false := by simpa using hjc
    have HW : Bx (waysR ⟨c, ia, ib⟩ n L.length s = if n + 1 < L.length then [(n : Int) + 1] else []) := ⟨by unfold waysR; rw [if_neg hjc]⟩
    have e1 : (((c : Int) == 10) : Bool) = false := (beq_code c 10).trans (by unfold jumpC at hjf; simp at hjf; simpa using hjf.1)
    have e2 : (((c : Int) == 11) : Bool) = false := (beq_code c 11).trans (by unfold jumpC at hjf; simp at hjf; simpa using hjf.2)
    clear hs ht hj hjc hjf
    by_cases hn : n + 1 < L.length
    · have hb1 : decide ((n : Int) + 1 < (L.length : Int)) = true := decide_eq_true (by omega)
      have HN : Bx _ := ⟨hn⟩
      clear hn
      go_enter Tryz.func63, Tryz.ntmps63
      go_wp2
      go_ret
      exact ⟨_, rfl, by rw [HW.out, if_pos HN.out]; exact lit_new w [(n : Int) + 1] _ (by simp), below1 _ _⟩
    · have hb1 : decide ((n : Int) + 1 < (L.length : Int)) = false := decide_eq_false (by omega)
      have HN : Bx _ := ⟨hn⟩
      clear hn
      go_enter Tryz.func63, Tryz.ntmps63
      go_wp2
      go_ret
      exact ⟨_, rfl, by rw [HW.out, if_neg HN.out]; exact nil_new w _, Below.refl _ _⟩
end
end Go.Proofs.YtbcajmkmadgbhaaGreatDoor
