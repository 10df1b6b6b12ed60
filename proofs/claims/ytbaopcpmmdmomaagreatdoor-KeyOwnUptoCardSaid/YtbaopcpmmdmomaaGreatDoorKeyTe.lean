/- Runs of copy and append at rows of elements of several cells (for slices.Insert at tags). slices.Insert at tags. -/
import Derived.Test.YtbaopcpmmdmomaaGreatDoorKeyTc
import Derived.Laws.CopyRow
import Derived.Lib.AppendZeros
import Derived.Lib.Overlaps
import Derived.Shelf.Spec.SlicesInsert
import Derived.Laws.CopyOwn
set_option linter.unusedSimpArgs false
set_option linter.unusedVariables false
namespace Go.Proofs.YtbaopcpmmdmomaaGreatDoor
section
open Go.RowKit
theorem run_copy_wide {P : Program} (w : World) (dT sT ty elem : TypeId) (g o dLen dCap : Nat) (a : Addr) (sLen sCap size : Nat) (cur : Array Value) (t : TypeId) (cs : List Value)
    (hu : P.underlying dT = some (.slice elem)) (hs : (P.info? elem).map (·.size) = some size)
    (hg : w.heap[g]? = some (.cells cur t (0, 0))) (hn : cs.length = Nat.min sLen dLen * size)
    (hsrc : ∀ j v, cs[j]? = some v → w.cell? (a.add j) = some v) (hfit : o + cs.length ≤ cur.size) (h1 : ∀ v ∈ cs, v.oneCell' = true) :
    (Builtin.copy_ #[dT, sT] ty #[.slice (some ⟨g, o, none⟩) dLen dCap, .slice (some a) sLen sCap]).run P w =
      .ok (goInt (Nat.min sLen dLen)) (w.setRow g (cur.toList.take o ++ cs ++ cur.toList.drop (o + cs.length)).toArray) := by
  have hl := run_loadCells_list (P := P) w a cs hsrc
  have hst := run_storeCells_at P g o t cs 0 cur w hg (by simpa using hfit) h1
  cases hq : P.info? elem with
  | none => simp [hq] at hs
  | some i =>
    have hi : i.size = size := by simpa [hq] using hs
    simp [Builtin.copy_, run_underlying hu, Builtin.lenOf, Builtin.firstCells, sizeOf, typeInfo, hq, hi, ← hn, hl, hst]
theorem run_append_grow_zeros {P : Program} (w : World) (t tn ty e : TypeId) (i : TypeInfo) (z : Value) (k kn : IntKind) (ht : P.underlying t = some (.slice e)) (htn : P.underlying tn = some (.int kn)) (hi : P.info? e = some i) (hz : i.zero = some z)
    (b : Addr) (sLen sCap : Nat) (olds : List Value) (hlo : olds.length = sLen * i.size) (holds : ∀ j v, olds[j]? = some v → w.cell? (b.add j) = some v)
    (n : Nat) (h0 : 0 < n) (hs : 0 < i.size) (hg : sCap < sLen + n) (h63 : ((sLen + n : Nat) : Int) ≤ 9223372036854775807) (hfit : Builtin.nextslicecap (sLen + n) sCap * i.bytes ≤ 281474976710656) (hn48 : n * i.bytes ≤ 281474976710656) :
    (Builtin.append_ #[t, tn] ty #[.slice (some b) sLen sCap, .int k n]).run P w =
      .ok (.slice (some ⟨w.heap.size, 0, none⟩) (sLen + n) (grownCap w (sLen + n) sCap e))
        (w.drew.alloc (.cells (olds.toArray ++ Builtin.zeroCells z.cells n ++ Builtin.zeroCells z.cells (grownCap w (sLen + n) sCap e - (sLen + n))) e)) := by
  have hn : ¬ (sLen + n ≤ sCap) := by omega
  have hw : IntKind.i64.wrap (n : Int) = n := by rw [IntKind.wrap_i64]; omega
  have h63' : ¬ (9223372036854775807 < ((sLen : Int) + (n : Int))) := by omega
  have h48' : ¬ (281474976710656 < Builtin.nextslicecap (sLen + n) sCap * i.bytes) := by omega
  have h48i : ¬ (281474976710656 < (n : Int) * (i.bytes : Int)) := by
    rw [← Int.natCast_mul]
    omega
  have hneg : ¬ ((n : Int) < 0) := by omega
  have hns : ¬ (n * i.size = 0) := Nat.mul_ne_zero (by omega) (by omega)
  have hfo := run_firstCells_some (P := P) w.drew i.size sLen b sLen sCap olds hlo (by simpa using holds)
  simp [Builtin.append_, run_underlying ht, run_underlying htn, sizeOf, typeInfo, zeroValue, hi, hz, asInt, asIntOf, hw, hn, hneg, hns, h63', h48', h48i, Question.forced, hfo, newRow, grownCap]
/-- two cells set into a list at a place: what is read behind it -/
theorem lay_take {α : Type} (L cs : List α) (o : Nat) (h : o ≤ L.length) : (L.take o ++ cs ++ L.drop (o + cs.length)).take (o + cs.length) = L.take o ++ cs := by
  rw [List.take_append_of_le_length (by simp; omega)]
  exact List.take_of_length_le (by simp; omega)
end
section
open Go.RowKit
theorem cell_block {w : World} {vb : Nat} {a b : List UInt8} (h : w.heap[vb]? = some (.cells #[strV a, strV b] 70 (0, 0))) : ∀ j u, [strV a, strV b][j]? = some u → w.cell? ((⟨vb, 0, none⟩ : Addr).add j) = some u := World.news_of_block h
set_option maxHeartbeats 4000000 in
set_option maxRecDepth 100000 in
/-- at the end -/
theorem insert_end (base n vb : Nat) (v : Value) (xs : List Value) (a b : List UInt8) (w : World) (ho : w.ownsRow base 70 2 v n xs) (hvb : w.heap[vb]? = some (.cells #[strV a, strV b] 70 (0, 0))) (hbase : base ≤ w.heap.size) (hn : n ≤ 1048576) :
    Calls Tryz.prog 17 #[v, .int .i64 n, .slice (some ⟨vb, 0, none⟩) 1 1] w fun e w' => ∃ v', e = .returned v' ∧ w'.ownsRow base 70 2 v' (n + 1) (xs ++ [strV a, strV b]) ∧ w.grownBy w' v.ownBlock := by
  obtain ⟨i0, hi, hiz, hi1, hi2⟩ := info_parts (show (Tryz.prog.info? 70).map (fun i => (i.zero, i.size, i.bytes)) = some (some (.agg #[.string ⟨#[]⟩, .string ⟨#[]⟩]), 2, 32) by kernel_rfl)
  have HI0 : Bx (Tryz.prog.info? 70 = some i0 ∧ i0.zero = some (.agg #[.string ⟨#[]⟩, .string ⟨#[]⟩]) ∧ i0.size = 2 ∧ i0.bytes = 32) := ⟨hi, hiz, hi1, hi2⟩
  have HO : Bx _ := ⟨And.intro ho hvb⟩
  have hsh : ∃ A cap, v = .slice A n cap ∧ n ≤ cap := by
    obtain ⟨_, ⟨rfl, rfl⟩ | ⟨M, cap, cur, rfl, _, _, hnc, _⟩⟩ := id ho
    · exact ⟨none, 0, rfl, Nat.le_refl _⟩
    · exact ⟨_, cap, rfl, hnc⟩
  obtain ⟨A, cap, rfl, hnc⟩ := hsh
  clear hi hiz hi1 hi2 ho hvb
  go_enter Tryz.func17, Tryz.ntmps17
  go_wp2_with (at_builtin; refine wpList_append_own _ rfl _ _ 22 rfl base 70 i0 (.agg #[.string ⟨#[]⟩, .string ⟨#[]⟩]) 2 32 Tryz.underlying22 HI0.out.1 HI0.out.2.1 HI0.out.2.2.1 HI0.out.2.2.2 rfl (by decide) (.slice A n cap) n xs rfl HO.out.1 ⟨vb, 0, none⟩ 1 1 [strV a, strV b] rfl rfl (cell_block HO.out.2) (one2 _ _) (by unfold maxLen; omega) (by omega) hbase ?_; intro v' w2 hown hg _; have HK : Bx _ := ⟨And.intro hown hg⟩; clear hown hg)
  all_goals
    go_ret
    first
      | exact ⟨v', rfl, HK.out.1, HK.out.2⟩
      | (rename_i h; subst h; exact ⟨v', rfl, HK.out.1, HK.out.2⟩)
set_option maxHeartbeats 4000000 in
set_option maxRecDepth 100000 in
/-- between, no room -/
theorem insert_grow (base g n cap i vb : Nat) (xs : List Value) (a b : List UInt8) (w : World) (ho : w.ownsRow base 70 2 (.slice (some ⟨g, 0, none⟩) n cap) n xs) (hvb : w.heap[vb]? = some (.cells #[strV a, strV b] 70 (0, 0))) (hbase : base ≤ w.heap.size) (hn : n ≤ 1048576) (hi : i < n) (hnc : n ≤ cap) (hfull : cap < n + 1) (h1 : ∀ u ∈ xs, u.oneCell' = true) :
    Calls Tryz.prog 17 #[.slice (some ⟨g, 0, none⟩) n cap, .int .i64 i, .slice (some ⟨vb, 0, none⟩) 1 1] w fun e w' => ∃ v', e = .returned v' ∧ w'.ownsRow base 70 2 v' (n + 1) (xs.take (i * 2) ++ [strV a, strV b] ++ xs.drop (i * 2)) ∧ w.grownBy w' (some g) := by
  obtain ⟨i0, hii, hiz, hi1, hi2⟩ := info_parts (show (Tryz.prog.info? 70).map (fun i => (i.zero, i.size, i.bytes)) = some (some (.agg #[.string ⟨#[]⟩, .string ⟨#[]⟩]), 2, 32) by kernel_rfl)
  have HI0 : Bx (Tryz.prog.info? 70 = some i0 ∧ i0.zero = some (.agg #[.string ⟨#[]⟩, .string ⟨#[]⟩]) ∧ i0.size = 2 ∧ i0.bytes = 32) := ⟨hii, hiz, hi1, hi2⟩
  have HO : Bx _ := ⟨And.intro ho (And.intro hvb h1)⟩
  have n1 : ¬ cap = i := by omega
  have n2 : ¬ ((i : Int) = (n : Int)) := by omega
  have hin : i ≤ n := by omega
  have hic : i ≤ cap := by omega
  clear hii hiz hi1 hi2 ho hvb h1
  go_enter Tryz.func17, Tryz.ntmps17
  have hlen : xs.length = n * 2 := HO.out.1.1
  have hz := fun ty => run_append_grow_zeros (P := Tryz.prog) w 22 3 ty 70 i0 _ .i64 .i64 Tryz.underlying22 Tryz.underlying3 HI0.out.1 HI0.out.2.1 ⟨g, 0, none⟩ i cap (xs.take (i * 2)) (by rw [HI0.out.2.2.1, List.length_take]; omega)
    (fun j u hj => HO.out.1.cells (g := g) rfl j u (by rw [List.getElem?_take] at hj; split at hj; exact hj; cases hj)) (n + 1 - i) (by omega) (by rw [HI0.out.2.2.1]; omega) (by omega) (by omega) (by rw [HI0.out.2.2.2]; exact growslice_fits (by omega) (by omega)) (by rw [HI0.out.2.2.2]; omega)
  rw [show i + (n + 1 - i) = n + 1 by omega] at hz
  have hcg := grownCap_ge w (n + 1) cap 70
  have hcl := grownCap_le_maxLen w (n + 1) cap 70 (by unfold maxLen; omega)
  generalize grownCap w (n + 1) cap 70 = cm at *
  obtain ⟨NEW, hNEW⟩ : ∃ NEW : Array Value, (xs.take (i * 2)).toArray ++ Builtin.zeroCells (Value.agg #[.string ⟨#[]⟩, .string ⟨#[]⟩]).cells (n + 1 - i) ++ Builtin.zeroCells (Value.agg #[.string ⟨#[]⟩, .string ⟨#[]⟩]).cells (cm - (n + 1)) = NEW := ⟨_, rfl⟩
  rw [hNEW] at hz
  have hsz : NEW.size = cm * 2 := by
    rw [← hNEW]
    simp only [Array.size_append, List.size_toArray, size_zeroCells, List.length_take]
    show min (i * 2) xs.length + (n + 1 - i) * 2 + (cm - (n + 1)) * 2 = cm * 2
    omega
  have htk : NEW.toList.take (i * 2) = xs.take (i * 2) := by
    rw [← hNEW]
    simp only [Array.toList_append, List.append_assoc]
    rw [List.take_append_of_le_length (by simp; omega), List.take_of_length_le (by simp; omega)]
  have HZ : Bx _ := ⟨hz⟩
  have hg1 : (w.alloc (.cells NEW 70)).drew.heap[w.heap.size]? = some (.cells NEW 70 (0, 0)) := heap_alloc_new w _
  have hb1 : Below w.heap.size w (w.alloc (.cells NEW 70)).drew := (below1 w _).drew
  have HN : Bx _ := ⟨And.intro hsz (And.intro htk (And.intro hg1 hb1))⟩
  clear hNEW hz hsz htk hg1 hb1
  have hvl : vb < w.heap.size := by
    rcases Nat.lt_or_ge vb w.heap.size with h | h
    · exact h
    · have := HO.out.2.1; rw [Array.getElem?_eq_none h] at this; cases this
  have hvb1 : (w.alloc (.cells NEW 70)).drew.heap[vb]? = some (.cells #[strV a, strV b] 70 (0, 0)) := by rw [HN.out.2.2.2.block vb hvl]; exact HO.out.2.1
  have hsz2 : (Tryz.prog.info? 70).map (·.size) = some 2 := by rw [HI0.out.1]; simp [HI0.out.2.2.1]
  have hmin : Nat.min 1 (n + 1 - i) = 1 := Nat.min_eq_left (by omega)
  have hc1 := fun ty => run_copy_wide (P := Tryz.prog) (w.alloc (.cells NEW 70)).drew 22 22 ty 70 w.heap.size (i * 2) (n + 1 - i) (cm - i) ⟨vb, 0, none⟩ 1 1 2 NEW 70 [strV a, strV b] Tryz.underlying22 hsz2 HN.out.2.2.1 (by rw [hmin]; rfl) (cell_block hvb1) (by rw [HN.out.1]; simp; omega) (one2 _ _)
  have HC1 : Bx _ := ⟨hc1⟩
  obtain ⟨N1, hN1⟩ : ∃ N1, (NEW.toList.take (i * 2) ++ [strV a, strV b] ++ NEW.toList.drop (i * 2 + [strV a, strV b].length)).toArray = N1 := ⟨_, rfl⟩
  rw [hN1] at HC1
  have HN1 : Bx _ := ⟨hN1⟩
  clear hN1 hc1 hvb1 hvl hmin
  go_upto_region 11 with (at_builtin; refine Lib.wpList_append_run _ rfl _ _ _ _ rfl _ _ rfl (congrArg (Value.int IntKind.i64) (show ((n : Int) + 1 - (i : Int)) = ((n + 1 - i : Nat) : Int) by omega)) _ _ (HZ.out _) ?_)
  rw [HC1.out]
  simp only [Result.andThen]
  rw [Oper.upon_value]
  go_upto_region 11 with (fail)
  simp only [Act.put, List.setIfInBounds_toArray, List.set_cons_zero, List.set_cons_succ]
  have hs1 : N1.size = cm * 2 := by
    rw [← HN1.out]
    simp only [List.size_toArray, List.length_append, List.length_take, List.length_drop, Array.length_toList, List.length_cons, List.length_nil, HN.out.1]
    omega
  have ht1 : N1.toList.take (i * 2 + 2) = xs.take (i * 2) ++ [strV a, strV b] := by
    rw [← HN1.out]
    have := lay_take NEW.toList [strV a, strV b] (i * 2) (by rw [Array.length_toList, HN.out.1]; omega)
    rw [HN.out.2.1] at this
    rw [HN.out.2.1]
    simpa using this
  have hg2 : ((w.alloc (.cells NEW 70)).drew.setRow w.heap.size N1).heap[w.heap.size]? = some (.cells N1 70 (0, 0)) := setRow_heap _ _ NEW _ _ _ HN.out.2.2.1
  have hb2 : Below w.heap.size w ((w.alloc (.cells NEW 70)).drew.setRow w.heap.size N1) := below_setRow HN.out.2.2.2 (Nat.le_refl _) N1
  generalize (w.alloc (.cells NEW 70)).drew.setRow w.heap.size N1 = w2 at *
  have hgl : g < w.heap.size := (HO.out.1.lt g rfl).2
  have hc2 := fun ty => run_copy_wide (P := Tryz.prog) w2.drew 22 22 ty 70 w.heap.size ((i + 1) * 2) (n - i) (cm - (i + 1)) ⟨g, i * 2, none⟩ (n - i) (cap - i) 2 N1 70 (xs.drop (i * 2)) Tryz.underlying22 hsz2 hg2 (by rw [show Nat.min (n - i) (n - i) = n - i from Nat.min_self _, List.length_drop, hlen]; omega)
    (fun j u hj => by
      rw [List.getElem?_drop] at hj
      have h := HO.out.1.cells (g := g) rfl _ u hj
      have e1 : (⟨g, 0, none⟩ : Addr).add (i * 2 + j) = ⟨g, i * 2 + j, none⟩ := by rw [Addr.add_lit, Nat.zero_add]
      have e2 : (⟨g, i * 2, none⟩ : Addr).add j = ⟨g, i * 2 + j, none⟩ := by rw [Addr.add_lit]
      rw [e1] at h
      rw [e2]
      show w2.cell? _ = _
      rw [hb2.cell (p := ⟨g, i * 2 + j, none⟩) hgl]
      exact h) (by rw [hs1, List.length_drop, hlen]; omega) (fun u hu => HO.out.2.2 u (List.mem_of_mem_drop hu))
  obtain ⟨N2, hN2⟩ : ∃ N2, (N1.toList.take ((i + 1) * 2) ++ xs.drop (i * 2) ++ N1.toList.drop ((i + 1) * 2 + (xs.drop (i * 2)).length)).toArray = N2 := ⟨_, rfl⟩
  rw [hN2] at hc2
  have HF : Bx _ := ⟨And.intro hs1 (And.intro ht1 (And.intro hg2 (And.intro hb2 hN2)))⟩
  have HC2 : Bx _ := ⟨hc2⟩
  clear HC1 HN HN1 HZ hs1 ht1 hg2 hb2 hN2 hc2 hsz2
  have hw1 : IntKind.i64.wrap ((i : Int) + 1) = (i : Int) + 1 := by rw [IntKind.wrap_i64]; omega
  have hb1 : (0 : Int) ≤ (i : Int) + 1 := by omega
  have htn : ((i : Int) + 1).toNat = i + 1 := by omega
  have hb3 : (i : Int) + 1 ≤ (n : Int) + 1 := by omega
  have hb4 : ¬ cm = i + 1 := by omega
  have hb5 : i + 1 ≤ n + 1 := by omega
  have hb6 : i + 1 ≤ cm := by omega
  go_region_law (refine step_copy_runI rfl _ _ 22 22 rfl _ _ (by simp [Act.eval, Act.put]) (by simp [Act.eval, Act.put]) (HC2.out _) ?_)
  have hdl : (xs.drop (i * 2)).length = n * 2 - i * 2 := by rw [List.length_drop, hlen]
  have hs2 : N2.size = cm * 2 := by
    rw [← HF.out.2.2.2.2]
    simp only [List.size_toArray, List.length_append, List.length_take, List.length_drop, Array.length_toList, HF.out.1, hdl]
    omega
  have ht2 : N2.toList.take ((n + 1) * 2) = xs.take (i * 2) ++ [strV a, strV b] ++ xs.drop (i * 2) := by
    rw [← HF.out.2.2.2.2]
    have h := lay_take N1.toList (xs.drop (i * 2)) ((i + 1) * 2) (by rw [Array.length_toList, HF.out.1]; omega)
    have e : (i + 1) * 2 + (xs.drop (i * 2)).length = (n + 1) * 2 := by rw [hdl]; omega
    have e2 : N1.toList.take ((i + 1) * 2) = xs.take (i * 2) ++ [strV a, strV b] := by rw [show (i + 1) * 2 = i * 2 + 2 by omega]; exact HF.out.2.1
    rw [e, e2] at h
    rw [e, e2]
    simpa using h
  have hg3 : (w2.drew.setRow w.heap.size N2).heap[w.heap.size]? = some (.cells N2 70 (0, 0)) := setRow_heap _ _ N1 _ _ _ HF.out.2.2.1
  have hb3 : Below w.heap.size w (w2.drew.setRow w.heap.size N2) := below_setRow (HF.out.2.2.2.1.trans (Below.refl _ _).drew) (Nat.le_refl _) N2
  have HOK : Bx ((w2.drew.setRow w.heap.size N2).ownsRow base 70 2 (.slice (some ⟨w.heap.size, 0, none⟩) (n + 1) cm) (n + 1) (xs.take (i * 2) ++ [strV a, strV b] ++ xs.drop (i * 2)) ∧ w.grownBy (w2.drew.setRow w.heap.size N2) (some g)) :=
    ⟨⟨by simp only [List.length_append, List.length_take, hdl, hlen, List.length_cons, List.length_nil]; omega, .inr ⟨w.heap.size, cm, N2, rfl, hbase, hg3, hcg, hcl, hs2, ht2⟩⟩, grown_below hb3 _⟩
  clear hdl hs2 ht2 hg3 hb3 HF HC2
  generalize w2.drew.setRow w.heap.size N2 = w3 at *
  go_wp2
  go_ret
  exact ⟨_, rfl, HOK.out.1, HOK.out.2⟩
set_option maxHeartbeats 4000000 in
set_option maxRecDepth 100000 in
/-- between, there is room -/
theorem insert_shift (base g n cap i vb : Nat) (xs : List Value) (a b : List UInt8) (w : World) (ho : w.ownsRow base 70 2 (.slice (some ⟨g, 0, none⟩) n cap) n xs) (hvb : w.heap[vb]? = some (.cells #[strV a, strV b] 70 (0, 0))) (hbase : base ≤ w.heap.size) (hn : n ≤ 1048576) (hi : i < n) (hroom : n + 1 ≤ cap) (hvg : vb ≠ g) (h1 : ∀ u ∈ xs, u.oneCell' = true) :
    Calls Tryz.prog 17 #[.slice (some ⟨g, 0, none⟩) n cap, .int .i64 i, .slice (some ⟨vb, 0, none⟩) 1 1] w fun e w' => ∃ v', e = .returned v' ∧ w'.ownsRow base 70 2 v' (n + 1) (xs.take (i * 2) ++ [strV a, strV b] ++ xs.drop (i * 2)) ∧ w.grownBy w' (some g) := by
  obtain ⟨i0, hii, hiz, hi1, hi2⟩ := info_parts (show (Tryz.prog.info? 70).map (fun i => (i.zero, i.size, i.bytes)) = some (some (.agg #[.string ⟨#[]⟩, .string ⟨#[]⟩]), 2, 32) by kernel_rfl)
  have hsz2 : (Tryz.prog.info? 70).map (·.size) = some 2 := by rw [hii]; simp [hi1]
  have hlen : xs.length = n * 2 := ho.1
  have hcs0 := ho.cells (g := g) rfl
  have hgl : g < w.heap.size := (ho.lt g rfl).2
  obtain ⟨cur, hbg, hg, hcm, hcs, htk⟩ : ∃ cur, base ≤ g ∧ w.heap[g]? = some (.cells cur 70 (0, 0)) ∧ cap ≤ maxLen ∧ cur.size = cap * 2 ∧ cur.toList.take (n * 2) = xs := by
    obtain ⟨_, ⟨h, _⟩ | ⟨g', cap', cur, h, hbg, hg, _, hcm, hcs, htk⟩⟩ := id ho
    · simp at h
    · simp only [Value.slice.injEq, Option.some.injEq, Addr.mk.injEq, and_true, true_and] at h
      obtain ⟨rfl, rfl⟩ := h
      exact ⟨cur, hbg, hg, hcm, hcs, htk⟩
  have hov : ∀ lb cb, (callFunc 56 #[.slice (some ⟨vb, 0, none⟩) 1 1, .slice (some ⟨g, (i + 1) * 2, none⟩) lb cb]).run Tryz.prog w = .ok (.value (.bool false)) w := fun lb cb => by
    rw [run_callFunc_extern Tryz.func56 (by kernel_rfl) (by kernel_rfl) (by kernel_rfl) (e := Extern.SlicesOverlaps.overlaps #[22, 22] #[4]) (by kernel_rfl),
      Lib.run_overlaps_apart w 22 4 70 Tryz.underlying22 2 (fun w => by kernel_rfl) ⟨vb, 0, none⟩ ⟨g, (i + 1) * 2, none⟩ 1 1 lb cb hvg 70 70 2 (cap * 2) (by simp [World.shape?, hvb]) (by simp [World.shape?, hg, hcs]) (by omega) (by simp [World.frozen?, hvb]) (by simp [World.frozen?, hvb])]
    rfl
  have HO : Bx _ := ⟨And.intro ho (And.intro hvb (And.intro h1 (And.intro hcs0 (And.intro hg (And.intro hcs htk)))))⟩
  have n1 : ¬ cap = i := by omega
  have n2 : ¬ ((i : Int) = (n : Int)) := by omega
  have n3 : ¬ cap = i + 1 := by omega
  have hin : i ≤ n := by omega
  have hic : i ≤ cap := by omega
  clear hii hiz hi1 hi2 ho hvb h1 hcs0 hg hcs htk
  go_enter Tryz.func17, Tryz.ntmps17
  go_upto_region 15 with (fail)
  clear hov
  have hdl : (xs.drop (i * 2)).length = n * 2 - i * 2 := by rw [List.length_drop, hlen]
  have hc1 := fun ty => run_copy_wide (P := Tryz.prog) w.drew 22 22 ty 70 g ((i + 1) * 2) (n - i) (cap - (i + 1)) ⟨g, i * 2, none⟩ (n + 1 - i) (cap - i) 2 cur 70 (xs.drop (i * 2)) Tryz.underlying22 hsz2 HO.out.2.2.2.2.1 (by rw [show Nat.min (n + 1 - i) (n - i) = n - i from Nat.min_eq_right (by omega), hdl]; omega)
    (fun j u hj => by
      rw [List.getElem?_drop] at hj
      have h := HO.out.2.2.2.1 _ u hj
      have e1 : (⟨g, 0, none⟩ : Addr).add (i * 2 + j) = ⟨g, i * 2 + j, none⟩ := by rw [Addr.add_lit, Nat.zero_add]
      have e2 : (⟨g, i * 2, none⟩ : Addr).add j = ⟨g, i * 2 + j, none⟩ := by rw [Addr.add_lit]
      rw [e1] at h
      rw [e2]
      exact h) (by rw [HO.out.2.2.2.2.2.1, hdl]; omega) (fun u hu => HO.out.2.2.1 u (List.mem_of_mem_drop hu))
  obtain ⟨N1, hN1⟩ : ∃ N1, (cur.toList.take ((i + 1) * 2) ++ xs.drop (i * 2) ++ cur.toList.drop ((i + 1) * 2 + (xs.drop (i * 2)).length)).toArray = N1 := ⟨_, rfl⟩
  rw [hN1] at hc1
  have HC1 : Bx _ := ⟨hc1⟩
  have HN1 : Bx _ := ⟨hN1⟩
  clear hc1 hN1
  have hw1 : IntKind.i64.wrap ((i : Int) + 1) = (i : Int) + 1 := by rw [IntKind.wrap_i64]; omega
  have hb1 : (0 : Int) ≤ (i : Int) + 1 := by omega
  have htn : ((i : Int) + 1).toNat = i + 1 := by omega
  have hb3 : (i : Int) + 1 ≤ (n : Int) + 1 := by omega
  have hb5 : i + 1 ≤ n + 1 := by omega
  have hb6 : i + 1 ≤ cap := by omega
  have hb7 : (i : Int) ≤ (n : Int) + 1 := by omega
  have hb8 : i ≤ n + 1 := by omega
  go_region_law (refine step_copy_runI rfl _ _ 22 22 rfl _ _ (by simp [Act.eval, Act.put]) (by simp [Act.eval, Act.put]) (HC1.out _) ?_)
  have hs1 : N1.size = cap * 2 := by
    rw [← HN1.out]
    simp only [List.size_toArray, List.length_append, List.length_take, List.length_drop, Array.length_toList, HO.out.2.2.2.2.2.1, hdl]
    omega
  have hg1 : (w.drew.setRow g N1).heap[g]? = some (.cells N1 70 (0, 0)) := setRow_heap _ _ cur _ _ _ HO.out.2.2.2.2.1
  have hgr1 : w.grownBy (w.drew.setRow g N1) (some g) := ⟨rfl, rfl, rfl, by simp [World.setRow], fun k hk hne => setRow_other w.drew g k N1 (fun e => hne (by rw [e]))⟩
  have hvb1 : (w.drew.setRow g N1).heap[vb]? = some (.cells #[strV a, strV b] 70 (0, 0)) := by
    rw [hgr1.block vb (by
      rcases Nat.lt_or_ge vb w.heap.size with h | h
      · exact h
      · have := HO.out.2.1; rw [Array.getElem?_eq_none h] at this; cases this) (by simpa using hvg)]
    exact HO.out.2.1
  have HG : Bx _ := ⟨And.intro hgr1 (And.intro hg1 (And.intro hvb1 hs1))⟩
  clear hgr1 hg1 hvb1 hs1 HC1 hw1 hb1 htn hb3 hb5 hb6 hb7 hb8
  generalize w.drew.setRow g N1 = w2 at *
  have hc2 := fun ty => run_copy_wide (P := Tryz.prog) w2 22 22 ty 70 g (i * 2) (n + 1 - i) (cap - i) ⟨vb, 0, none⟩ 1 1 2 N1 70 [strV a, strV b] Tryz.underlying22 hsz2 HG.out.2.1 (by rw [show Nat.min 1 (n + 1 - i) = 1 from Nat.min_eq_left (by omega)]; rfl) (cell_block HG.out.2.2.1) (by rw [HG.out.2.2.2]; simp; omega) (one2 _ _)
  obtain ⟨N2, hN2⟩ : ∃ N2, (N1.toList.take (i * 2) ++ [strV a, strV b] ++ N1.toList.drop (i * 2 + [strV a, strV b].length)).toArray = N2 := ⟨_, rfl⟩
  rw [hN2] at hc2
  have HN2 : Bx _ := ⟨hN2⟩
  have HC2 : Bx _ := ⟨hc2⟩
  clear hc2 hN2
  have hb7 : (i : Int) ≤ (n : Int) + 1 := by omega
  have hb8 : i ≤ n + 1 := by omega
  go_wp2_with fail
  rw [HC2.out]
  simp only [Result.andThen]
  rw [Oper.upon_value]
  have hcl : cur.toList.length = cap * 2 := by rw [Array.length_toList]; exact HO.out.2.2.2.2.2.1
  have hA : N1.toList.take (i * 2) = xs.take (i * 2) := by
    rw [← HN1.out, ← HO.out.2.2.2.2.2.2]
    simp only [List.append_assoc]
    rw [List.take_append_of_le_length (by rw [List.length_take, hcl]; omega), List.take_take, List.take_take]
    congr 1
    omega
  have hD : N1.toList.drop (i * 2 + [strV a, strV b].length) = xs.drop (i * 2) ++ cur.toList.drop ((i + 1) * 2 + (xs.drop (i * 2)).length) := by
    rw [← HN1.out]
    simp only [List.append_assoc]
    exact List.drop_left' (by rw [List.length_take, hcl]; show min ((i + 1) * 2) (cap * 2) = i * 2 + 2; omega)
  have hs2 : N2.size = cap * 2 := by
    rw [← HN2.out]
    simp only [List.size_toArray, List.length_append, List.length_take, List.length_drop, Array.length_toList, HG.out.2.2.2, List.length_cons, List.length_nil]
    omega
  have ht2 : N2.toList.take ((n + 1) * 2) = xs.take (i * 2) ++ [strV a, strV b] ++ xs.drop (i * 2) := by
    rw [← HN2.out, hA, hD, show (xs.take (i * 2) ++ [strV a, strV b] ++ (xs.drop (i * 2) ++ cur.toList.drop ((i + 1) * 2 + (xs.drop (i * 2)).length))).toArray.toList = (xs.take (i * 2) ++ [strV a, strV b] ++ xs.drop (i * 2)) ++ cur.toList.drop ((i + 1) * 2 + (xs.drop (i * 2)).length) by simp]
    rw [List.take_append_of_le_length (by simp only [List.length_append, List.length_take, hdl, hlen, List.length_cons, List.length_nil]; omega)]
    exact List.take_of_length_le (by simp only [List.length_append, List.length_take, hdl, hlen, List.length_cons, List.length_nil]; omega)
  have hg3 : (w2.setRow g N2).heap[g]? = some (.cells N2 70 (0, 0)) := setRow_heap _ _ N1 _ _ _ HG.out.2.1
  have hgr3 : w.grownBy (w2.setRow g N2) (some g) := HG.out.1.trans ⟨rfl, rfl, rfl, by simp [World.setRow], fun k hk hne => setRow_other w2 g k N2 (fun e => hne (by rw [e]))⟩
  have HOK : Bx ((w2.setRow g N2).ownsRow base 70 2 (.slice (some ⟨g, 0, none⟩) (n + 1) cap) (n + 1) (xs.take (i * 2) ++ [strV a, strV b] ++ xs.drop (i * 2)) ∧ w.grownBy (w2.setRow g N2) (some g)) :=
    ⟨⟨by simp only [List.length_append, List.length_take, hdl, hlen, List.length_cons, List.length_nil]; omega, .inr ⟨g, cap, N2, rfl, hbg, hg3, hroom, hcm, hs2, ht2⟩⟩, hgr3⟩
  clear hA hD hs2 ht2 hg3 hgr3 hcl HC2 HN2 HG
  generalize w2.setRow g N2 = w3 at *
  simp only [Act.put, List.setIfInBounds_toArray, List.set_cons_zero, List.set_cons_succ]
  go_wp2
  go_ret
  exact ⟨_, rfl, HOK.out.1, HOK.out.2⟩
/-- slices.Insert, of one tag into a row of the call's own -/
theorem insert_any (base n i vb : Nat) (v : Value) (xs : List Value) (a b : List UInt8) (w : World) (ho : w.ownsRow base 70 2 v n xs) (hvb : w.heap[vb]? = some (.cells #[strV a, strV b] 70 (0, 0))) (hbase : base ≤ w.heap.size) (hn : n ≤ 1048576) (hi : i ≤ n) (hvg : v.ownBlock ≠ some vb) (h1 : ∀ u ∈ xs, u.oneCell' = true) :
    Calls Tryz.prog 17 #[v, .int .i64 i, .slice (some ⟨vb, 0, none⟩) 1 1] w fun e w' => ∃ v', e = .returned v' ∧ w'.ownsRow base 70 2 v' (n + 1) (xs.take (i * 2) ++ [strV a, strV b] ++ xs.drop (i * 2)) ∧ w.grownBy w' v.ownBlock := by
  by_cases hin : i = n
  · subst hin
    have hl := ho.1
    rw [List.take_of_length_le (by omega), List.drop_eq_nil_of_le (by omega), List.append_nil]
    exact insert_end base i vb v xs a b w ho hvb hbase hn
  · obtain ⟨_, ⟨rfl, rfl⟩ | ⟨g, cap, cur, rfl, hbg, hg, hnc, hcm, hcs, htk⟩⟩ := id ho
    · omega
    · by_cases hr : n + 1 ≤ cap
      · exact insert_shift base g n cap i vb xs a b w ho hvb hbase hn (by omega) hr (fun e => hvg (by rw [e]; rfl)) h1
      · exact insert_grow base g n cap i vb xs a b w ho hvb hbase hn (by omega) hnc (by omega) h1
end
end Go.Proofs.YtbaopcpmmdmomaaGreatDoor
