/- Join, of both sides. -/
import Derived.Test.YtbaopcpmmdmomaaGreatDoorKeyTh
set_option linter.unusedSimpArgs false
set_option linter.unusedVariables false
namespace Go.Proofs.YtbaopcpmmdmomaaGreatDoor
open Go.RowKit
/-- the tags that are joined of the first texts -/
def joinL (nm vl : Nat → List UInt8) : Nat → List (List UInt8 × List UInt8)
  | 0 => []
  | i + 1 => if vl i == [] then joinL nm vl i else joinL nm vl i ++ [(nm i, vl i)]
theorem joinL_len (nm vl : Nat → List UInt8) (i : Nat) : (joinL nm vl i).length ≤ i := by
  induction i with
  | zero => exact Nat.le_refl _
  | succ i ih =>
    unfold joinL
    split
    · omega
    · simp only [List.length_append, List.length_cons, List.length_nil]; omega
theorem joinL_mem {nm vl : Nat → List UInt8} {P : List UInt8 × List UInt8 → Prop} {m : Nat} (h : ∀ i, i < m → P (nm i, vl i)) : ∀ p ∈ joinL nm vl m, P p := by
  induction m with
  | zero => intro p hp; cases hp
  | succ m ih =>
    intro p hp
    unfold joinL at hp
    split at hp
    · exact ih (fun i hi => h i (by omega)) p hp
    · rw [List.mem_append, List.mem_singleton] at hp
      rcases hp with hp | rfl
      · exact ih (fun i hi => h i (by omega)) p hp
      · exact h m (by omega)
/-- the joined tags in order -/
def joinS (nm vl : Nat → List UInt8) (m : Nat) : List (List UInt8 × List UInt8) := srtT (fun i => ((joinL nm vl m).getD i ([], [])).1) (fun i => ((joinL nm vl m).getD i ([], [])).2) (joinL nm vl m).length
theorem own_base {w : World} {b b' n : Nat} {e : TypeId} {size : Nat} {v : Value} {xs : List Value} (h : w.ownsRow b e size v n xs) (hb : b' ≤ b) : w.ownsRow b' e size v n xs := by
  refine ⟨h.1, h.2.imp id ?_⟩
  rintro ⟨g, cap, cur, h1, h2, h3⟩
  exact ⟨g, cap, cur, h1, Nat.le_trans hb h2, h3⟩
set_option maxHeartbeats 4000000 in
set_option maxRecDepth 100000 in
theorem kjoin_any (A A2 : Option Addr) (n c1 N c2 : Nat) (nm vl : Nat → List UInt8) (w : World) (h1 : TxtRow w A n nm) (h2 : TxtRow w A2 N vl) (hl : ∀ i, i < min n N → (nm i).length ≤ 9223372036854775807 ∧ (vl i).length ≤ 9223372036854775807) (hn : n ≤ 1048576) (hN : N ≤ 1048576) :
    Calls Tryz.prog 7 #[.slice A n c1, .slice A2 N c2] w fun e w' => ∃ v', e = .returned v' ∧ w'.ownsRow w.heap.size 70 2 v' (joinS nm vl (min n N)).length (tagC (joinS nm vl (min n N))) ∧ Below w.heap.size w w' := by
  obtain ⟨i0, hii, hiz, hi1, hi2⟩ := info_parts (show (Tryz.prog.info? 70).map (fun i => (i.zero, i.size, i.bytes)) = some (some (.agg #[.string ⟨#[]⟩, .string ⟨#[]⟩]), 2, 32) by kernel_rfl)
  have HI0 : Bx (Tryz.prog.info? 70 = some i0 ∧ i0.zero = some (.agg #[.string ⟨#[]⟩, .string ⟨#[]⟩]) ∧ i0.size = 2 ∧ i0.bytes = 32) := ⟨hii, hiz, hi1, hi2⟩
  have HR : Bx _ := ⟨And.intro h1 h2⟩
  obtain ⟨m, hm⟩ : ∃ m, min n N = m := ⟨_, rfl⟩
  rw [hm] at hl
  simp only [hm]
  have HL : Bx _ := ⟨hl⟩
  have hmz : min (n : Int) (N : Int) = (m : Int) := by omega
  have hmn : m ≤ n := by omega
  have hmN : m ≤ N := by omega
  clear h1 h2 hl hm hii hiz hi1 hi2
  go_enter Tryz.func7, Tryz.ntmps7
  go_wp2_with fail
  go_loopw [5, 12] (fun o i wr => ∃ (k : Nat), k ≤ m ∧ i = .int .i64 k ∧ ∃ js, Bx (joinL nm vl k = js ∧ js.length ≤ k ∧ Below w.heap.size w wr ∧ wr.ownsRow w.heap.size 70 2 o js.length (tagC js))) (fun _ i _ => m - (intOf i).toNat)
  case atStart => exact ⟨0, by omega, rfl, [], ⟨rfl, Nat.le_refl _, Below.refl _ _, World.ownsRow_nil _ _ _ _⟩⟩
  case round =>
    obtain ⟨k, hk, rfl, js, HI⟩ := hrel
    by_cases hlt : k < m
    · obtain ⟨b, off, rfl, hrow⟩ := HR.out.1.row (by omega)
      obtain ⟨b', off', rfl, hrow'⟩ := HR.out.2.row (by omega)
      have r0 : wr.cell? ⟨b, off + k, none⟩ = some (strV (nm k)) := by have h := hrow k (by omega); rw [HI.out.2.2.1.cell (cell_lt h)]; exact h
      have r1 : wr.cell? ⟨b', off' + k, none⟩ = some (strV (vl k)) := by have h := hrow' k (by omega); rw [HI.out.2.2.1.cell (cell_lt h)]; exact h
      have hst : joinL nm vl (k + 1) = if vl k == [] then joinL nm vl k else joinL nm vl k ++ [(nm k, vl k)] := rfl
      rw [HI.out.1] at hst
      generalize nm k = K at *
      generalize vl k = V at *
      have hkN : k < N := by omega
      have hkn : k < n := by omega
      clear hrow hrow'
      have hjl := HI.out.2.1
      cases V with
      | nil =>
        have HK : Bx (joinL nm vl (k + 1) = js ∧ js.length ≤ k + 1 ∧ Below w.heap.size w wr ∧ wr.ownsRow w.heap.size 70 2 u5 js.length (tagC js)) := ⟨hst, by omega, HI.out.2.2⟩
        clear hst
        go_wp2_with fail
        exact ⟨⟨k + 1, by omega, by rw [Int.natCast_succ], js, HK⟩, by simp only [intOf]; omega⟩
      | cons x V =>
        have HST : Bx (joinL nm vl (k + 1) = js ++ [(K, x :: V)]) := ⟨hst⟩
        clear hst
        go_wp2_with fail
        go_region_law (refine step_append_lies _ rfl _ _ 22 rfl w.heap.size 70 i0 (.agg #[.string ⟨#[]⟩, .string ⟨#[]⟩]) 2 32 Tryz.underlying22 HI0.out.1 HI0.out.2.1 HI0.out.2.2.1 HI0.out.2.2.2 rfl (by decide) u5 js.length (tagC js) (by simp [Act.eval, Act.put]) ((HI.out.2.2.2.kept (grown_below (Below.refl _ wr).drew none) (no_row _)).alloc _) ⟨wr.heap.size, 0, none⟩ 1 1 [strV K, strV (x :: V)] (by simp [Act.eval, Act.put]) rfl (news2 wr.drew _ _ _) (one2 _ _) (by decide) (by unfold maxLen; omega) (by omega) (Nat.le_trans HI.out.2.2.1.size (below1 wr (.cells #[strV K, strV (x :: V)] 70)).drew.size) _ rfl ?_; intro g cap w9 hown hgrow hat hlt9)
        all_goals
          have hbd : Below wr.heap.size wr (wr.alloc (.cells #[strV K, strV (x :: V)] 70)).drew := (below1 wr _).drew
          have HK : Bx (joinL nm vl (k + 1) = js ++ [(K, x :: V)] ∧ (js ++ [(K, x :: V)]).length ≤ k + 1 ∧ Below w.heap.size w w9 ∧ w9.ownsRow w.heap.size 70 2 (.slice (some ⟨g, 0, none⟩) (js.length + 1) cap) (js ++ [(K, x :: V)]).length (tagC (js ++ [(K, x :: V)]))) := ⟨HST.out, by simp only [List.length_append, List.length_cons, List.length_nil]; omega, below_own (HI.out.2.2.1.trans (hbd.mono HI.out.2.2.1.size)) hgrow (fun g e => (HI.out.2.2.2.lt g e).1) (Nat.le_trans HI.out.2.2.1.size hbd.size), by rw [tagC_snoc, List.length_append]; exact hown⟩
          clear hbd hown hgrow hat hlt9 HST
          go_wp2
          exact ⟨⟨k + 1, by omega, by rw [Int.natCast_succ], _, HK⟩, by simp only [intOf]; omega⟩
    · obtain rfl : k = m := by omega
      have hLs : ∀ p ∈ js, p.1.length ≤ 9223372036854775807 ∧ p.2.length ≤ 9223372036854775807 := by
        rw [← HI.out.1]
        exact joinL_mem HL.out
      obtain ⟨A', cap', rfl, hrow⟩ := row_of_owns HI.out.2.2.2 hLs
      have ks := ksort_any A' js.length cap' _ _ wr hrow (by have := HI.out.2.1; omega)
      have HS : Bx (joinS nm vl k = srtT (fun i => (js.getD i ([], [])).1) (fun i => (js.getD i ([], [])).2) js.length) := ⟨by unfold joinS; rw [HI.out.1]⟩
      clear hLs hrow
      go_wp2_with fail
      refine ks.mono ?_
      rintro e w2 ⟨v', rfl, hown, hb⟩
      have HE : Bx (w2.ownsRow w.heap.size 70 2 v' (joinS nm vl k).length (tagC (joinS nm vl k)) ∧ Below w.heap.size w w2) := ⟨by rw [HS.out]; exact own_base hown HI.out.2.2.1.size, HI.out.2.2.1.trans (hb.mono HI.out.2.2.1.size)⟩
      clear ks hown hb
      go_wp2_with fail
      go_ret
      exact ⟨_, rfl, HE.out⟩
end Go.Proofs.YtbaopcpmmdmomaaGreatDoor
