/- append of one entry, and where: in its row, or in a new one, the old one left as it was. -/
import Derived.Test.YtlodgmmhaolmaaaMrk
import Derived.Test.YtlodgmmhaolmaaaHpF
import Derived.Laws.OwnMore
import Derived.ArgAppend
set_option linter.unusedSimpArgs false
set_option linter.unusedVariables false
namespace Go.Proofs.Ytlodgmmhaolmaaa
open Go.RowKit
/-- an entry alone, as cells -/
theorem oneEnt (e : Ent) : ∀ u ∈ [Value.int .i64 e.1, strV e.2], u.oneCell' = true := fun u hu => by
  rcases List.mem_cons.1 hu with rfl | hu
  · rfl
  · rcases List.mem_cons.1 hu with rfl | hu
    · rfl
    · cases hu
theorem run_append_rowk (v : Value) (L : List Ent) (e : Ent) (w : World) (hrow : RowE w v L) (ad : Addr) (hnews : ∀ j u, [Value.int .i64 e.1, strV e.2][j]? = some u → w.cell? (ad.add j) = some u) (hb : (L.length + 1) * 24 ≤ 140737488355328) (ty : TypeId) :
    ∃ g cap w', (Builtin.append_ #[23, 23] ty #[v, .slice (some ad) 1 1]).run Try.prog w = .ok (.slice (some ⟨g, 0, none⟩) (L.length + 1) cap) w' ∧ w'.ownsRow 0 27 2 (.slice (some ⟨g, 0, none⟩) (L.length + 1) cap) (L.length + 1) (entC (L ++ [e])) ∧ ((rowB v = some g ∧ w.grownBy w' (some g)) ∨ (w.heap.size ≤ g ∧ w.grownBy w' none)) := by
  obtain ⟨i0, hi, hiz, hi1, hi2⟩ := infoE
  have one := oneEnt e
  have hmax : L.length + 1 ≤ maxLen := by unfold maxLen; omega
  rcases hrow with ⟨g0, cap0, h0, rfl, hown⟩ | ⟨hL, A, rfl⟩
  · rcases Nat.lt_or_ge cap0 (L.length + 1) with hf | hr
    · obtain ⟨v', w', hrun, r1, r2⟩ := run_append_arg_grows (P := Try.prog) w 23 ty 27 i0 _ 2 24 Try.underlying23 hi hiz hi1 hi2 rfl (by decide) ⟨g0, 0, none⟩ L.length cap0 (entC L) (entC_len L) (hown.cells (g := g0) rfl) ad 1 1 _ rfl hnews hf hmax hb
      obtain ⟨g, cap, rfl, hge⟩ := own_ge r1 (by omega)
      exact ⟨g, cap, w', hrun, by rw [entC_snoc]; exact own_base r1, Or.inr ⟨hge, r2⟩⟩
    · obtain ⟨w', hrun, h1, h2⟩ := run_append_fits (P := Try.prog) w 0 23 ty 27 i0 2 Try.underlying23 hi hi1 g0 L.length cap0 (entC L) hown ad 1 1 _ rfl hnews one hr
      exact ⟨g0, cap0, w', hrun, by rw [entC_snoc]; exact h1, Or.inl ⟨rowB_pos h0, h2⟩⟩
  · subst hL
    cases A with
    | none =>
      obtain ⟨g, cap, w', hrun, h1, h2, hat, hlt⟩ := run_append_lies (P := Try.prog) w 23 ty 0 27 i0 _ 2 24 Try.underlying23 hi hiz hi1 hi2 rfl (by decide) (.slice none 0 0) 0 [] (World.ownsRow_nil _ _ _ _) ad 1 1 _ rfl hnews one (by decide) hmax hb (Nat.zero_le _) _ rfl
      refine ⟨g, cap, w', hrun, by rw [entC_snoc]; exact h1, Or.inr ⟨?_, h2⟩⟩
      rcases hat with e1 | e1
      · cases e1
      · exact Nat.le_of_eq e1.symm
    | some b =>
      obtain ⟨v', w', hrun, r1, r2⟩ := run_append_arg_grows (P := Try.prog) w 23 ty 27 i0 _ 2 24 Try.underlying23 hi hiz hi1 hi2 rfl (by decide) b 0 0 [] rfl (fun j u h => by simp at h) ad 1 1 _ rfl hnews (by decide) hmax hb
      obtain ⟨g, cap, rfl, hge⟩ := own_ge r1 (by omega)
      exact ⟨g, cap, w', hrun, by rw [entC_snoc]; exact own_base r1, Or.inr ⟨hge, r2⟩⟩
theorem wp_append_rowk {o : Oper} {a : Act} {w : World} {K : Act → World → Prop} {Q : Exit → Act → World → Prop} (s x : Operand)
    (ho : o.op = .call { callee := .builtin .append, args := #[s, x], argTypes := #[23, 23] })
    (v : Value) (L : List Ent) (n : Nat) (hn : L.length = n) (e : Ent) (hs : a.eval s = v) (hrow : RowE w v L) (ad : Addr) (hx : a.eval x = .slice (some ad) 1 1) (hnews : ∀ j u, [Value.int .i64 e.1, strV e.2][j]? = some u → w.cell? (ad.add j) = some u)
    (hb : (n + 1) * 24 ≤ 140737488355328)
    (hK : ∀ g cap w', w'.ownsRow 0 27 2 (.slice (some ⟨g, 0, none⟩) (n + 1) cap) (n + 1) (entC (L ++ [e])) → ((rowB v = some g ∧ w.grownBy w' (some g)) ∨ (w.heap.size ≤ g ∧ w.grownBy w' none)) → K (a.put o.dst (.slice (some ⟨g, 0, none⟩) (n + 1) cap)) w') : Oper.wp Try.prog o a w K Q := by
  subst hn
  obtain ⟨g, cap, w', hr, h2, h3⟩ := run_append_rowk v L e w hrow ad hnews hb o.type
  unfold Oper.wp execOp
  simp only [ho, resolve, invoke, builtin, Sem.run_bind, Sem.run_pure, Result.andThen_ok, List.map_toArray, List.map_cons, List.map_nil, hs, hx, hr]
  exact hK g cap w' h2 h3
theorem step_append_rowk {ops : Array Oper} {o : Oper} {a : Act} {w : World} {K : Act → World → Prop} {Q : Exit → Act → World → Prop} {E : Prop} (hgd : o.guard = none) (s x : Operand)
    (ho : o.op = .call { callee := .builtin .append, args := #[s, x], argTypes := #[23, 23] })
    (v : Value) (L : List Ent) (n : Nat) (hn : L.length = n) (e : Ent) (hs : a.eval s = v) (hrow : RowE w v L) (ad : Addr) (hx : a.eval x = .slice (some ad) 1 1) (hnews : ∀ j u, [Value.int .i64 e.1, strV e.2][j]? = some u → w.cell? (ad.add j) = some u)
    (hb : (n + 1) * 24 ≤ 140737488355328)
    (hK : ∀ g cap w', w'.ownsRow 0 27 2 (.slice (some ⟨g, 0, none⟩) (n + 1) cap) (n + 1) (entC (L ++ [e])) → ((rowB v = some g ∧ w.grownBy w' (some g)) ∨ (w.heap.size ≤ g ∧ w.grownBy w' none)) → K (a.put o.dst (.slice (some ⟨g, 0, none⟩) (n + 1) cap)) w') :
    if Region.wanted o (yielded ops a.tmps) = true then Oper.wp Try.prog o a w K Q else E := by
  have hw : Region.wanted o (yielded ops a.tmps) = true := by simp [Region.wanted, hgd]
  rw [if_pos hw]
  exact wp_append_rowk s x ho v L n hn e hs hrow ad hx hnews hb hK
theorem wpList_append_rowk {ops : Array Oper} {rest : List Oper} {o : Oper} {a : Act} {w : World} {Q : Exit → Act → World → Prop} (hgd : o.guard = none) (s x : Operand)
    (ho : o.op = .call { callee := .builtin .append, args := #[s, x], argTypes := #[23, 23] })
    (v : Value) (L : List Ent) (n : Nat) (hn : L.length = n) (e : Ent) (hs : a.eval s = v) (hrow : RowE w v L) (ad : Addr) (hx : a.eval x = .slice (some ad) 1 1) (hnews : ∀ j u, [Value.int .i64 e.1, strV e.2][j]? = some u → w.cell? (ad.add j) = some u)
    (hb : (n + 1) * 24 ≤ 140737488355328)
    (hK : ∀ g cap w', w'.ownsRow 0 27 2 (.slice (some ⟨g, 0, none⟩) (n + 1) cap) (n + 1) (entC (L ++ [e])) → ((rowB v = some g ∧ w.grownBy w' (some g)) ∨ (w.heap.size ≤ g ∧ w.grownBy w' none)) → wpList Try.prog ops Q rest (a.put o.dst (.slice (some ⟨g, 0, none⟩) (n + 1) cap)) w') :
    wpList Try.prog ops Q (o :: rest) a w :=
  wpList_plain hgd fun _ hK' => wp_append_rowk s x ho v L n hn e hs hrow ad hx hnews hb fun g cap w' h2 h3 => hK' _ _ (hK g cap w' h2 h3)
end Go.Proofs.Ytlodgmmhaolmaaa
