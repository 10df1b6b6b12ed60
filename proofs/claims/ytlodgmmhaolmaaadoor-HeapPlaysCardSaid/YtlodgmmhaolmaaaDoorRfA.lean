/- The document's heap: its block and its row; New, find, swap, up. -/
import Derived.Test.YtlodgmmhaolmaaaDoorHpE
import Derived.Test.YtlodgmmhaolmaaaDoorAhd
set_option linter.unusedSimpArgs false
set_option linter.unusedVariables false
namespace Go.Proofs.YtlodgmmhaolmaaaDoor
open Go.RowKit
structure RefAt (w : World) (mb : Nat) (v : Value) (L : List Ent) (mo : Bool) (mv : Nat) : Prop where
  blk : w.heap[mb]? = some (.cells #[v, .bool mo, .int .i64 mv] 81 (0, 0))
  row : RowE w v L
def rfoot (mb : Nat) (v : Value) : List Nat := mb :: (rowB v).toList
theorem RefAt.kept {w w' : World} {mb : Nat} {v : Value} {L : List Ent} {mo : Bool} {mv : Nat} {S : List Nat} (h : RefAt w mb v L mo mv) (ht : Turned S w w') (hS : ∀ x ∈ S, x ∉ rfoot mb v) : RefAt w' mb v L mo mv where
  blk := by rw [ht.block mb (block_lt h.blk) (fun e => hS mb e (by simp [rfoot]))]; exact h.blk
  row := h.row.kept ht (fun x hx e => hS x hx (by simp [rfoot, e]))
theorem RefAt.below {w w' : World} {mb : Nat} {v : Value} {L : List Ent} {mo : Bool} {mv : Nat} (h : RefAt w mb v L mo mv) (hb : Below w.heap.size w w') : RefAt w' mb v L mo mv := h.kept (S := []) (Turned.ofBelow hb) (fun x hx => by cases hx)
theorem RefAt.cell0 {w : World} {mb : Nat} {v : Value} {L : List Ent} {mo : Bool} {mv : Nat} (h : RefAt w mb v L mo mv) : w.cell? ⟨mb, 0, none⟩ = some v := cells_at h.blk 0 _ rfl
theorem RefAt.cell1 {w : World} {mb : Nat} {v : Value} {L : List Ent} {mo : Bool} {mv : Nat} (h : RefAt w mb v L mo mv) : w.cell? ⟨mb, 1, none⟩ = some (.bool mo) := cells_at h.blk 1 _ rfl
theorem RefAt.cell2 {w : World} {mb : Nat} {v : Value} {L : List Ent} {mo : Bool} {mv : Nat} (h : RefAt w mb v L mo mv) : w.cell? ⟨mb, 2, none⟩ = some (.int .i64 mv) := cells_at h.blk 2 _ rfl
theorem RefAt.free {w : World} {mb : Nat} {v : Value} {L : List Ent} {mo : Bool} {mv : Nat} (h : RefAt w mb v L mo mv) (i : Nat) : w.frozen? ⟨mb, i, none⟩ = false := cells_free h.blk i
theorem RefAt.ne {w : World} {mb : Nat} {v : Value} {L : List Ent} {mo : Bool} {mv : Nat} (h : RefAt w mb v L mo mv) : rowB v ≠ some mb := by
  rcases h.row with ⟨g, cap, h0, rfl, ho⟩ | ⟨_, A, rfl⟩
  · rw [rowB_pos h0]
    intro e
    injection e with e
    subst e
    obtain ⟨_, ⟨hv, _⟩ | ⟨g', c, cur, hv, _, hg, _⟩⟩ := ho
    · cases hv
    · simp only [Value.slice.injEq, Option.some.injEq, Addr.mk.injEq, and_true, true_and] at hv
      obtain ⟨rfl, _⟩ := hv
      rw [h.blk] at hg
      simp only [Option.some.injEq, Obj.cells.injEq] at hg
      exact absurd hg.2.1 (by decide)
  · cases A <;> exact fun e => by cases e
/-- a store of the count of moves -/
theorem RefAt.moved {w : World} {mb : Nat} {v : Value} {L : List Ent} {mo : Bool} {mv : Nat} (h : RefAt w mb v L mo mv) (k : Nat) : RefAt (w.setCell ⟨mb, 2, none⟩ (.int .i64 k)) mb v L mo k where
  blk := by
    have := cells_set h.blk 2 (.int .i64 (k : Int))
    simpa using this
  row := h.row.kept (Turned.set mb 2 (.int .i64 (k : Int))) (fun x hx e => by rw [List.mem_singleton] at hx; subst hx; exact h.ne e)
set_option maxHeartbeats 1000000 in
theorem rnew_any (mo : Bool) (w : World) : Calls Tryd.prog 16 #[.bool mo] w fun e w' => ∃ mb, e = .returned (.pointer (some ⟨mb, 0, none⟩)) ∧ RefAt w' mb (.slice none 0 0) [] mo 0 ∧ Below w.heap.size w w' ∧ w.heap.size ≤ mb := by
  have hb := heap_alloc_new w (.cells #[.slice none 0 0, .bool mo, .int .i64 0] 81)
  have hb2 := below1 w (.cells #[.slice none 0 0, .bool mo, .int .i64 0] 81)
  have HB := Bx.mk (And.intro hb hb2)
  clear hb hb2
  go_enter Tryd.func16, Tryd.ntmps16
  go_wp2
  go_ret
  exact ⟨w.heap.size, rfl, ⟨HB.out.1, Or.inr ⟨rfl, none, rfl⟩⟩, HB.out.2, Nat.le_refl _⟩
theorem findE_first {L : List Ent} {s : List UInt8} {k : Nat} (h : ∀ j, j < k → (atE L j).2 ≠ s) (hk : k < L.length) (he : (atE L k).2 = s) : findE L s = some k := by
  induction L generalizing k with
  | nil => simp at hk
  | cons e r ih =>
    simp only [findE]
    cases k with
    | zero =>
      rw [if_pos (by simpa [atE] using he)]
    | succ k =>
      rw [if_neg (by have := h 0 (by omega); simpa [atE] using this), ih (k := k) (fun j hj => by have := h (j + 1) (by omega); simpa [atE] using this) (by simpa using hk) (by simpa [atE] using he)]
      rfl
theorem findE_no {L : List Ent} {s : List UInt8} (h : ∀ j, j < L.length → (atE L j).2 ≠ s) : findE L s = none := by
  cases hf : findE L s with
  | none => rfl
  | some i =>
    obtain ⟨h1, h2⟩ := findE_some hf
    exact absurd h2 (h i h1)
/-- a place as a number -/
def posI : Option Nat → Int
  | some i => i
  | none => -1
set_option maxHeartbeats 2000000 in
set_option maxRecDepth 100000 in
theorem rfind_any (mb : Nat) (v : Value) (L : List Ent) (mo : Bool) (mv : Nat) (s : List UInt8) (w : World) (h : RefAt w mb v L mo mv) (hL : L.length ≤ 1152921504606846976) :
    Calls Tryd.prog 44 #[.pointer (some ⟨mb, 0, none⟩), strV s] w fun e w' => e = .returned (.int .i64 (posI (findE L s))) ∧ w' = w := by
  have c0 := h.cell0
  obtain ⟨A, cap, rfl, _⟩ := h.row.form
  have HH := Bx.mk h
  obtain ⟨N, hN⟩ : ∃ N, L.length = N := ⟨_, rfl⟩
  have HN := Bx.mk hN
  rw [hN] at c0 hL
  clear h hN
  go_enter Tryd.func44, Tryd.ntmps44
  go_wp2_with fail
  go_loopw [5] (fun i wr => ∃ k : Nat, i = .int .i64 k ∧ k ≤ N ∧ wr = w ∧ Bx (∀ j, j < k → (atE L j).2 ≠ s)) (fun i _ => N - (intOf i).toNat)
  case atStart => exact ⟨0, rfl, by omega, rfl, ⟨fun j hj => absurd hj (by omega)⟩⟩
  case round =>
    obtain ⟨k, rfl, hk, rfl, HF⟩ := hrel
    by_cases hlt : k < N
    · obtain ⟨g, cp, e1, ho⟩ := HH.out.row.some (by rw [HN.out]; omega)
      rw [HN.out] at e1 ho
      injection e1 with e1 _ e2
      subst e1 e2
      have d1 := (ent_cells ho HN.out.symm (i := k) (by rw [HN.out]; exact hlt)).2
      obtain ⟨t, ht⟩ : ∃ t, (atE L k).2 = t := ⟨_, rfl⟩
      have HT := Bx.mk ht
      rw [ht] at d1
      clear ht ho
      by_cases hts : t = s
      · subst hts
        have HP := Bx.mk (findE_first HF.out (by rw [HN.out]; exact hlt) HT.out)
        go_wp2
        go_ret
        exact ⟨by rw [HP.out]; rfl, rfl⟩
      · have hb : (t == s) = false := by simpa using hts
        have HF2 : Bx (∀ j, j < k + 1 → (atE L j).2 ≠ s) := ⟨fun j hj => by
          by_cases e : j = k
          · rw [e, HT.out]; exact hts
          · exact HF.out j (by omega)⟩
        clear hts
        go_wp2
        exact ⟨⟨k + 1, by rw [Int.natCast_succ], by omega, (by trivial), HF2⟩, by simp only [intOf]; omega⟩
    · obtain rfl : k = N := by omega
      have HP := Bx.mk (findE_no (s := s) (fun j hj => HF.out j (by rw [HN.out] at hj; exact hj)))
      go_wp2
      go_ret
      exact ⟨by rw [HP.out]; rfl, rfl⟩
set_option maxHeartbeats 4000000 in
set_option maxRecDepth 100000 in
theorem rswap_any (mb : Nat) (v : Value) (L : List Ent) (mo : Bool) (mv i k : Nat) (w : World) (h : RefAt w mb v L mo mv) (hi : i < L.length) (hk : k < L.length) (hik : i ≠ k) (hL : L.length ≤ 1152921504606846976) (hmv : mv ≤ 1152921504606846976) :
    Calls Tryd.prog 68 #[.pointer (some ⟨mb, 0, none⟩), .int .i64 i, .int .i64 k] w fun e w' => e = .returned (.tuple #[]) ∧ RefAt w' mb v (swE L i k) mo (mv + 1) ∧ Turned (rfoot mb v) w w' := by
  obtain ⟨g, cap, rfl, ho⟩ := h.row.some (by omega)
  have hcap := own_cap ho
  have hap := h.ne
  rw [rowB_pos (by omega)] at hap
  have hgm : g ≠ mb := fun e => hap (by rw [e])
  have HH : Bx _ := ⟨And.intro h (And.intro hgm (show 0 < cap by omega))⟩
  have c0 := h.cell0
  have c2 := h.cell2
  have f2 := h.free 2
  obtain ⟨e0, e1⟩ := ent_cells ho rfl hi
  obtain ⟨d0, d1⟩ := ent_cells ho rfl hk
  have t0 := ho.frozenAt (i * 2)
  have t1 := ho.frozenAt (i * 2 + 1)
  have t2 := ho.frozenAt (k * 2)
  have t3 := ho.frozenAt (k * 2 + 1)
  have HSW : Bx _ := ⟨row_sw ho i k⟩
  generalize hN : L.length = N at *
  have HN : Bx _ := ⟨hN⟩
  clear hN ho h hap hgm hcap
  generalize hA : atE L i = A at *
  generalize hB : atE L k = B at *
  have HA : Bx _ := ⟨And.intro hA hB⟩
  clear hA hB
  obtain ⟨ar, an⟩ := A
  obtain ⟨br, bn⟩ := B
  simp only at e0 e1 d0 d1 HSW
  go_enter Tryd.func68, Tryd.ntmps68
  go_wp2_with fail
  go_region
  generalize hw1 : World.drew _ = w1
  have HS : Bx (w1.ownsRow 0 27 2 (.slice (some ⟨g, 0, none⟩) N cap) N (entC (swE L i k)) ∧ Turned [g] w w1) := ⟨by rw [← hw1]; exact ⟨HSW.out.1, HSW.out.2.drew⟩⟩
  clear hw1 HSW c0 c2 f2 e0 e1 d0 d1 t0 t1 t2 t3
  have hbk : w1.heap[mb]? = _ := (HS.out.2.block mb (block_lt HH.out.1.blk) (by simpa using (fun e => HH.out.2.1 e.symm))).trans HH.out.1.blk
  have c2 : w1.cell? ⟨mb, 2, none⟩ = some (.int .i64 mv) := cells_at hbk 2 _ rfl
  have f2 := cells_free hbk 2
  have hlen := swE_len L i k
  rw [HN.out] at hlen
  have h1 : RefAt w1 mb (.slice (some ⟨g, 0, none⟩) N cap) (swE L i k) mo mv := ⟨hbk, RowE.mk HS.out.1 hlen.symm HH.out.2.2⟩
  have HF : Bx (RefAt (w1.setCell ⟨mb, 2, none⟩ (.int .i64 ((mv : Int) + 1))) mb (.slice (some ⟨g, 0, none⟩) N cap) (swE L i k) mo (mv + 1) ∧ Turned (rfoot mb (.slice (some ⟨g, 0, none⟩) N cap)) w (w1.setCell ⟨mb, 2, none⟩ (.int .i64 ((mv : Int) + 1)))) := ⟨by
    have := h1.moved (mv + 1)
    rwa [Int.natCast_succ] at this, (HS.out.2.more (fun x hx => by rw [List.mem_singleton] at hx; subst hx; simp [rfoot, rowB_pos HH.out.2.2])).trans ((Turned.set mb 2 _).more (fun x hx => by rw [List.mem_singleton] at hx; subst hx; simp [rfoot]))⟩
  clear hbk hlen h1 HS
  go_wp2
  go_end0
  exact ⟨rfl, HF.out⟩
end Go.Proofs.YtlodgmmhaolmaaaDoor
