/- The document's heap: Sorted, Fork; In. -/
import Derived.Test.YtlodgmmhaolmaaaDoorRfF
import Derived.StillTailTactics
set_option linter.unusedSimpArgs false
set_option linter.unusedVariables false
namespace Go.Proofs.YtlodgmmhaolmaaaDoor
open Go.RowKit
theorem row_inF {w : World} {v : Value} {L : List Ent} (h : RowE w v L) : ∃ A cap, v = .slice A L.length cap ∧ EntRow w A L.length L ∧ (A = none → L.length = 0 ∧ cap = 0) := by
  rcases h with ⟨g, cap, h0, rfl, ho⟩ | ⟨hL, A, rfl⟩
  · refine ⟨_, cap, rfl, ⟨rfl, fun _ => ⟨g, 0, rfl, fun i hi => ?_⟩⟩, fun e => by cases e⟩
    have := ent_cells ho rfl hi
    rw [Nat.zero_add]; exact this
  · subst hL
    exact ⟨A, 0, rfl, ⟨rfl, fun h => absurd h (by simp)⟩, fun _ => ⟨rfl, rfl⟩⟩
set_option maxHeartbeats 2000000 in
set_option maxRecDepth 100000 in
theorem rsortedm_any (mb : Nat) (v : Value) (L : List Ent) (mo : Bool) (mv : Nat) (w : World) (h : RefAt w mb v L mo mv) (hN : NoTwice L) (hL : L.length * 24 ≤ 225179981352000) :
    Calls Tryd.prog 56 #[.pointer (some ⟨mb, 0, none⟩)] w fun e w' => ∃ A' c' S, e = .returned (.slice A' L.length c') ∧ EntRow w' A' L.length S ∧ SrtE mo S ∧ S.Perm L ∧ Below w.heap.size w w' := by
  obtain ⟨A, cap, rfl, hr, _⟩ := row_inF h.row
  have c0 := h.cell0
  have c1 := h.cell1
  have ks := rsorted_any mo A L.length cap L w.drew (hr.below (Below.refl _ _).drew) hN hL
  generalize L.length = N at *
  clear h hr
  go_enter Tryd.func56, Tryd.ntmps56
  go_wp2_with fail
  go_still_tail 8, (by kernel_rfl)
  change wpList _ _ _ _ _ w.drew
  go_wp2_with (go_at_call 71; refine ks.mono ?_; rintro e w1 ⟨A', c', S, rfl, h1, h2, h3, h4, _⟩; have HF := Bx.mk (And.intro h1 (And.intro h2 (And.intro h3 h4))); clear h1 h2 h3 h4 ks)
  go_ret
  exact ⟨A', c', S, rfl, HF.out.1, HF.out.2.1, HF.out.2.2.1, (Below.refl _ _).drew.trans HF.out.2.2.2⟩
/-- a copy: append to nil -/
theorem run_append_nilcopy (w : World) (v : Value) (L : List Ent) (hr : RowE w v L) (hb : L.length * 24 ≤ 225179981352000) (ty : TypeId) :
    ∃ v' w', (Builtin.append_ #[30, 30] ty #[.slice none 0 0, v]).run Tryd.prog w = .ok v' w' ∧ RowE w' v' L ∧ (∀ g, rowB v' = some g → w.heap.size ≤ g) ∧ Below w.heap.size w w' := by
  obtain ⟨i0, hi, hiz, hi1, hi2⟩ := infoE
  have own0 : w.ownsRow w.heap.size 27 2 (.slice none 0 0) 0 [] := World.ownsRow_nil _ _ _ _
  have hE2 : ∀ {w' : World} {v' : Value}, w'.ownsRow w.heap.size 27 2 v' (0 + L.length) ([] ++ entC L) → RowE w' v' L ∧ ∀ g, rowB v' = some g → w.heap.size ≤ g := fun h => rowE_own (by rw [Nat.zero_add, List.nil_append] at h; exact h) rfl
  have one : ∀ u ∈ entC L, u.oneCell' = true := entC_one L
  have hmx : 0 + L.length ≤ maxLen := by unfold maxLen; omega
  have hbel : ∀ {w' : World}, w.grownBy w' (Value.slice none 0 0).ownBlock → Below w.heap.size w w' := fun hg => ⟨hg.os, hg.tape, hg.output, hg.size, fun k hk => hg.block k hk (by simp [Value.ownBlock])⟩
  rcases hr with ⟨g, cap, h0, rfl, ho⟩ | ⟨rfl, A, rfl⟩
  · obtain ⟨v', w', hrun, h1, h2, _⟩ := run_append_own_wide (P := Tryd.prog) w w.heap.size 30 ty 27 i0 _ 2 24 Tryd.underlying30 hi hiz hi1 hi2 rfl (by decide) _ 0 [] own0 ⟨g, 0, none⟩ L.length cap (entC L) (entC_len L) (ho.cells (g := g) rfl) one hmx (wideZ hb) (Nat.le_refl _)
    exact ⟨v', w', hrun, (hE2 h1).1, (hE2 h1).2, hbel h2⟩
  · cases A with
    | none =>
      have hrun := run_append_owned_none (P := Tryd.prog) w w.heap.size 30 ty 27 i0 2 Tryd.underlying30 hi _ 0 [] own0
      exact ⟨_, w, hrun, Or.inr ⟨rfl, _, rfl⟩, (fun g e => by cases e), Below.refl _ _⟩
    | some a =>
      obtain ⟨v', w', hrun, h1, h2, _⟩ := run_append_own_wide (P := Tryd.prog) w w.heap.size 30 ty 27 i0 _ 2 24 Tryd.underlying30 hi hiz hi1 hi2 rfl (by decide) _ 0 [] own0 a 0 0 [] rfl (fun j u h => by simp at h) (fun u hu => by cases hu) (by unfold maxLen; omega) (wideZ (n := 0) (by decide)) (Nat.le_refl _)
      have h1' : w'.ownsRow w.heap.size 27 2 v' (0 + ([] : List Ent).length) ([] ++ entC []) := h1
      exact ⟨v', w', hrun, (hE2 h1').1, (hE2 h1').2, hbel h2⟩
theorem step_append_nilcopy {ops : Array Oper} {o : Oper} {a : Act} {w : World} {K : Act → World → Prop} {Q : Exit → Act → World → Prop} {E : Prop} (hgd : o.guard = none) (s x : Operand)
    (ho : o.op = .call { callee := .builtin .append, args := #[s, x], argTypes := #[30, 30] })
    (v : Value) (L : List Ent) (hs : a.eval s = .slice none 0 0) (hx : a.eval x = v) (hr : RowE w v L) (hb : L.length * 24 ≤ 225179981352000)
    (hK : ∀ v' w', RowE w' v' L → (∀ g, rowB v' = some g → w.heap.size ≤ g) → Below w.heap.size w w' → K (a.put o.dst v') w') :
    if Region.wanted o (yielded ops a.tmps) = true then Oper.wp Tryd.prog o a w K Q else E := by
  have hw : Region.wanted o (yielded ops a.tmps) = true := by simp [Region.wanted, hgd]
  rw [if_pos hw]
  obtain ⟨v', w', hr', h2, h3, h4⟩ := run_append_nilcopy w v L hr hb o.type
  unfold Oper.wp execOp
  simp only [ho, resolve, invoke, builtin, Sem.run_bind, Sem.run_pure, Result.andThen_ok, List.map_toArray, List.map_cons, List.map_nil, hs, hx, hr']
  exact hK v' w' h2 h3 h4
set_option maxHeartbeats 4000000 in
set_option maxRecDepth 100000 in
theorem rfork_any (mb : Nat) (v : Value) (L : List Ent) (mo : Bool) (mv : Nat) (w : World) (h : RefAt w mb v L mo mv) (hL : L.length * 24 ≤ 225179981352000) :
    Calls Tryd.prog 19 #[.pointer (some ⟨mb, 0, none⟩)] w fun e w' => ∃ mb' v', e = .returned (.pointer (some ⟨mb', 0, none⟩)) ∧ RefAt w' mb' v' L mo mv ∧ Below w.heap.size w w' ∧ ∀ x ∈ rfoot mb' v', w.heap.size ≤ x := by
  have c1 := h.cell1
  have c2 := h.cell2
  have HH := Bx.mk h
  clear h
  go_enter Tryd.func19, Tryd.ntmps19
  go_wp2_with fail
  go_region
  have hb2 : Below w.heap.size w (w.alloc (.cells #[.slice none 0 0, .bool mo, .int .i64 mv] 81)).drew := (below1 w (.cells #[.slice none 0 0, .bool mo, .int .i64 mv] 81)).drew
  have hk : (w.alloc (.cells #[.slice none 0 0, .bool mo, .int .i64 mv] 81)).drew.heap[w.heap.size]? = some (.cells #[.slice none 0 0, .bool mo, .int .i64 mv] 81 (0, 0)) := heap_alloc_new w _
  have HK := Bx.mk (And.intro (HH.out.below hb2) (And.intro hb2 hk))
  clear c1 c2 hb2 hk
  generalize (w.alloc (.cells #[.slice none 0 0, .bool mo, .int .i64 mv] 81)).drew = w2 at *
  obtain ⟨B, hB⟩ : ∃ B, w.heap.size = B := ⟨_, rfl⟩
  have HB := Bx.mk hB
  rw [hB] at HK
  simp only [hB]
  clear hB
  have c0 := HK.out.1.cell0
  have d0 : w2.cell? ⟨B, 0, none⟩ = some (.slice none 0 0) := cells_at HK.out.2.2 0 _ rfl
  have HR : Bx (RowE w2.drew v L) := ⟨HK.out.1.row.kept (S := []) (Turned.ofBelow (Below.refl _ _).drew) (by simp)⟩
  have HW : Bx (∀ w3, Below w2.drew.heap.size w2.drew w3 → w3.cell? ⟨B, 0, none⟩ = some (.slice none 0 0) ∧ w3.frozen? ⟨B, 0, none⟩ = false) := ⟨fun w3 h3 => by
    have h4 := ((show Below w2.heap.size w2 w3 from (Below.refl _ _).drew.trans h3).block B (block_lt HK.out.2.2)).trans HK.out.2.2
    exact ⟨cells_at h4 0 _ rfl, cells_free h4 0⟩⟩
  go_wp2_with fail
  go_region_law (refine step_append_nilcopy rfl _ _ rfl v L (by simp [Act.eval, Act.put]) (by simp [Act.eval, Act.put]) HR.out hL ?_; intro v' w3 h1 h2 h3; obtain ⟨e0, f0⟩ := HW.out w3 h3; obtain ⟨A', c', rfl, _⟩ := h1.form)
  all_goals
    obtain ⟨v', hv'⟩ : ∃ v', Value.slice A' L.length c' = v' := ⟨_, rfl⟩
    rw [hv'] at h1 h2
    simp only [hv']
    clear hv'
    clear c0 d0 e0 f0
    have h3' : Below w2.heap.size w2 w3 := (Below.refl _ _).drew.trans h3
    have hk3 := (h3'.block B (block_lt HK.out.2.2)).trans HK.out.2.2
    have hl2 := block_lt HK.out.2.2
    have hne : ∀ g, rowB v' = some g → g ≠ B := fun g e => by have h4 := h2 g e; simp only [World.drew] at h4; omega
    have HF : Bx (RefAt (w3.setCell ⟨B, 0, none⟩ v') B v' L mo mv ∧ Below w.heap.size w (w3.setCell ⟨B, 0, none⟩ v') ∧ ∀ x ∈ rfoot B v', w.heap.size ≤ x) := ⟨⟨by
      have := cells_set hk3 0 v'
      simpa using this, h1.kept (Turned.set B 0 v') (fun x hx e => by rw [List.mem_singleton] at hx; exact hne x e hx)⟩, by
      rw [HB.out]
      exact (HK.out.2.1.trans (h3'.mono (Nat.le_of_lt hl2))).setCell (Nat.le_refl _) _, fun x hx => by
      simp only [rfoot, List.mem_cons, Option.mem_toList] at hx
      rw [HB.out]
      rcases hx with rfl | hx
      · exact Nat.le_refl _
      · have h4 := h2 x hx
        simp only [World.drew] at h4
        omega⟩
    clear h1 h2 h3 h3' hk3 hl2 hne
    generalize w3.setCell ⟨B, 0, none⟩ v' = w4 at *
    go_wp2
    go_ret
    exact ⟨B, v', rfl, HF.out⟩
set_option maxHeartbeats 2000000 in
theorem rin_any (i c : Int) (w : World) (hc : 1 ≤ c) : Calls Tryd.prog 45 #[.int .i64 i, badV c] w fun e w' => e = .returned (.agg #[.int .i64 c, .int .i64 0, .int .i64 i, .bool false, .bool true]) ∧ Below w.heap.size w w' := by
  have hc0 : (c == 0) = false := by simp; omega
  go_enter Tryd.func45, Tryd.ntmps45
  go_wp2
  exact bodyPost_ret (results_bad rfl _ _ (w.heap.size + 1) c 0 i false true rfl (heap_alloc2_new w _ _)) rfl ⟨rfl, below2 _ _ _⟩
end Go.Proofs.YtlodgmmhaolmaaaDoor
