/- Rows of entries and of calls among a statement's arguments. -/
import Derived.Test.YtlodgmmhaolmaaaDoorOpn
import Derived.Test.YtlodgmmhaolmaaaDoorOpR
set_option linter.unusedVariables false
namespace Go.Proofs.YtlodgmmhaolmaaaDoor
open Go.ChangeShapes Go.WideShapes Go.ChangeAt Go.RowKit Go.Deep
section
variable {H : Type} {enc : TypeId × Value → H} {W : World}
theorem atE_map (f : Nat → Ent) {n i : Nat} (h : i < n) : atE ((List.range n).map f) i = f i := by
  unfold atE; rw [List.getD_eq_getElem?_getD, List.getElem?_map, List.getElem?_range h]; rfl
theorem ents_opened {fuel : Nat} {A : Option Addr} {n cap : Nat} {d : DataW H} {p : List MemPlace} (h : DataW.trod enc Tryd.prog W 0 (fun _ => true) true fuel 30 [Value.slice A n cap] = some (d, p)) :
    ∃ L, EntRow W A n L ∧ Texts L ∧ n ≤ 9223372036854775807 ∧ (A = none → n = 0 ∧ cap = 0) ∧ (0 < n → ∃ el sp, d = .slice el sp ∧ n ≤ el.length + sp.length) := by
  obtain ⟨hn, hnone, hd, hrow⟩ := slice_each Tryd.underlying30 (show Tryd.prog.cellsOf 27 = 2 by kernel_rfl) (by decide) h
  rcases Nat.eq_zero_or_pos n with h0 | h0
  · subst h0
    exact ⟨[], ⟨rfl, fun h => absurd h (by omega)⟩, (fun e he => by cases he), hn, hnone, hd⟩
  · obtain ⟨b, off, rfl, hi⟩ := hrow h0
    have each : ∀ i, i < n → ∃ e : Ent, W.cell? ⟨b, off + i * 2, none⟩ = some (.int .i64 e.1) ∧ W.cell? ⟨b, off + i * 2 + 1, none⟩ = some (strV e.2) ∧ e.2.length ≤ 9223372036854775807 := by
      intro i hin
      obtain ⟨cs, fu, y, hl, hc, ht⟩ := hi i hin
      obtain ⟨v0, k0, z0, e0, t0⟩ := field_one Tryd.underlying27 ht 0 _ 0 rfl rfl (by kernel_rfl) (by omega)
      obtain ⟨v1, k1, z1, e1, t1⟩ := field_one Tryd.underlying27 ht 1 _ 1 rfl rfl (by kernel_rfl) (by omega)
      obtain ⟨r, rfl, _⟩ := int_of Tryd.underlying2 t0
      obtain ⟨s, rfl, hs⟩ := str_of Tryd.underlying9 t1
      exact ⟨(r, s), by have := hc 0 (by omega); rw [e0] at this; exact this, by have := hc 1 (by omega); rw [e1] at this; exact this, hs⟩
    obtain ⟨f, hf⟩ := choose_lt each
    refine ⟨(List.range n).map f, ⟨by simp, fun _ => ⟨b, off, rfl, fun i hin => ?_⟩⟩, fun e he => ?_, hn, hnone, hd⟩
    · rw [atE_map f hin]; exact ⟨(hf i hin).1, (hf i hin).2.1⟩
    · obtain ⟨i, hin, rfl⟩ := List.mem_map.1 he
      exact (hf i (List.mem_range.1 hin)).2.2
theorem ops_opened {fuel : Nat} {A : Option Addr} {n cap : Nat} {d : DataW H} {p : List MemPlace} (h : DataW.trod enc Tryd.prog W 0 (fun _ => true) true fuel 25 [Value.slice A n cap] = some (d, p)) :
    ∃ kd en x1 x2 x5, OpRow W A n kd en x1 x2 x5 ∧ n ≤ 9223372036854775807 ∧ (A = none → n = 0 ∧ cap = 0) ∧ (0 < n → ∃ el sp, d = .slice el sp ∧ n ≤ el.length + sp.length) := by
  obtain ⟨hn, hnone, hd, hrow⟩ := slice_each Tryd.underlying25 (show Tryd.prog.cellsOf 48 = 6 by kernel_rfl) (by decide) h
  rcases Nat.eq_zero_or_pos n with h0 | h0
  · subst h0
    exact ⟨fun _ => 0, fun _ => (0, []), fun _ => 0, fun _ => false, fun _ => (none, 0, 0), ⟨fun h => absurd h (by omega), fun i hi => absurd hi (by omega)⟩, hn, hnone, hd⟩
  · obtain ⟨b, off, rfl, hi⟩ := hrow h0
    have each : ∀ i, i < n → ∃ q : Int × Ent × Int × Bool × (Option Addr × Nat × Nat), W.cell? ⟨b, off + i * 6, none⟩ = some (.int .i64 q.1) ∧ W.cell? ⟨b, off + i * 6 + 1, none⟩ = some (.int .i64 q.2.2.1) ∧ W.cell? ⟨b, off + i * 6 + 2, none⟩ = some (.bool q.2.2.2.1) ∧
        W.cell? ⟨b, off + i * 6 + 3, none⟩ = some (.int .i64 q.2.1.1) ∧ W.cell? ⟨b, off + i * 6 + 4, none⟩ = some (strV q.2.1.2) ∧ W.cell? ⟨b, off + i * 6 + 5, none⟩ = some (.slice q.2.2.2.2.1 q.2.2.2.2.2.1 q.2.2.2.2.2.2) ∧ q.2.1.2.length ≤ 9223372036854775807 := by
      intro i hin
      obtain ⟨cs, fu, y, hl, hc, ht⟩ := hi i hin
      obtain ⟨v0, k0, z0, e0, t0⟩ := field_one Tryd.underlying48 ht 0 _ 0 rfl rfl (by kernel_rfl) (by omega)
      obtain ⟨v1, k1, z1, e1, t1⟩ := field_one Tryd.underlying48 ht 1 _ 1 rfl rfl (by kernel_rfl) (by omega)
      obtain ⟨v2, k2, z2, e2, t2⟩ := field_one Tryd.underlying48 ht 2 _ 2 rfl rfl (by kernel_rfl) (by omega)
      obtain ⟨v5, k5, z5, e5, t5⟩ := field_one Tryd.underlying48 ht 4 _ 5 rfl rfl (by kernel_rfl) (by omega)
      obtain ⟨km, zm, tm⟩ := field_more Tryd.underlying48 ht 3 _ rfl
      have hcz : Tryd.prog.cellsOf 27 = 2 := by kernel_rfl
      have tm' : DataW.trod enc Tryd.prog W 0 (fun _ => true) true km 27 ((cs.drop 3).take (Tryd.prog.cellsOf 27)) = some zm := tm
      rw [hcz] at tm'
      obtain ⟨v3, k3, z3, e3, t3⟩ := field_one Tryd.underlying27 tm' 0 _ 0 rfl rfl (by kernel_rfl) (by simp; omega)
      obtain ⟨v4, k4, z4, e4, t4⟩ := field_one Tryd.underlying27 tm' 1 _ 1 rfl rfl (by kernel_rfl) (by simp; omega)
      rw [List.getElem?_take, if_pos (by decide), List.getElem?_drop] at e3 e4
      obtain ⟨a0, rfl, _⟩ := int_of Tryd.underlying3 t0
      obtain ⟨a1, rfl, _⟩ := int_of Tryd.underlying3 t1
      obtain ⟨a2, rfl⟩ := bool_of Tryd.underlying4 t2
      obtain ⟨a3, rfl, _⟩ := int_of Tryd.underlying2 t3
      obtain ⟨a4, rfl, h4⟩ := str_of Tryd.underlying9 t4
      obtain ⟨b0, b1, b2, rfl⟩ := slice_of Tryd.underlying30 t5
      have g : ∀ j v, j < 6 → cs[j]? = some v → W.cell? ⟨b, off + i * 6 + j, none⟩ = some v := fun j v hj e => by rw [hc j hj, e]
      exact ⟨(a0, (a3, a4), a1, a2, (b0, b1, b2)), g 0 _ (by omega) e0, g 1 _ (by omega) e1, g 2 _ (by omega) e2, g 3 _ (by omega) e3, g 4 _ (by omega) e4, g 5 _ (by omega) e5, h4⟩
    obtain ⟨f, hf⟩ := choose_lt each
    refine ⟨fun i => (f i).1, fun i => (f i).2.1, fun i => (f i).2.2.1, fun i => (f i).2.2.2.1, fun i => (f i).2.2.2.2, ⟨fun _ => ⟨b, off, rfl, fun i hin => ?_⟩, fun i hin => (hf i hin).2.2.2.2.2.2⟩, hn, hnone, hd⟩
    obtain ⟨q0, q1, q2, q3, q4, q5, _⟩ := hf i hin
    exact ⟨q0, q1, q2, q3, q4, q5⟩
end
end Go.Proofs.YtlodgmmhaolmaaaDoor
