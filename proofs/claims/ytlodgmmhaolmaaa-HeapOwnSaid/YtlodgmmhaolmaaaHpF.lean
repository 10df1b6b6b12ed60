/- The heap: append to its row; mend. -/
import Derived.Test.YtlodgmmhaolmaaaHpE
import Derived.Deep.AppendLies
import Derived.Deep.RegionLawGrows
set_option linter.unusedSimpArgs false
set_option linter.unusedVariables false
namespace Go.Proofs.Ytlodgmmhaolmaaa
open Go.RowKit
theorem own_base {w : World} {b n : Nat} {e : TypeId} {size : Nat} {v : Value} {xs : List Value} (h : w.ownsRow b e size v n xs) : w.ownsRow 0 e size v n xs := by
  obtain ⟨h1, h2 | ⟨g, cap, cur, hv, _, r⟩⟩ := h
  · exact ⟨h1, Or.inl h2⟩
  · exact ⟨h1, Or.inr ⟨g, cap, cur, hv, Nat.zero_le _, r⟩⟩
theorem own_ge {w : World} {b n : Nat} {e : TypeId} {size : Nat} {v : Value} {xs : List Value} (h : w.ownsRow b e size v n xs) (hn : 0 < n) : ∃ g cap, v = .slice (some ⟨g, 0, none⟩) n cap ∧ b ≤ g := by
  obtain ⟨h1, h2 | ⟨g, cap, cur, hv, hb, r⟩⟩ := h
  · omega
  · exact ⟨g, cap, hv, hb⟩
theorem infoE : ∃ i, Try.prog.info? 27 = some i ∧ i.zero = some (.agg #[.int .i64 0, .string ⟨#[]⟩]) ∧ i.size = 2 ∧ i.bytes = 24 :=
  info_parts (show (Try.prog.info? 27).map (fun i => (i.zero, i.size, i.bytes)) = some (some (.agg #[.int .i64 0, .string ⟨#[]⟩]), 2, 24) by kernel_rfl)
theorem entC_snoc (L : List Ent) (e : Ent) : entC (L ++ [e]) = entC L ++ [.int .i64 e.1, strV e.2] := by rw [entC_app]; simp [entC]
/-- append one entry -/
theorem step_append_row {ops : Array Oper} {o : Oper} {a : Act} {w : World} {K : Act → World → Prop} {Q : Exit → Act → World → Prop} {E : Prop} (hgd : o.guard = none) (s x : Operand)
    (ho : o.op = .call { callee := .builtin .append, args := #[s, x], argTypes := #[23, 23] })
    (v : Value) (L : List Ent) (n : Nat) (hn : L.length = n) (e : Ent) (hs : a.eval s = v) (hrow : RowE w v L) (ad : Addr) (hx : a.eval x = .slice (some ad) 1 1) (hnews : ∀ j u, [Value.int .i64 e.1, strV e.2][j]? = some u → w.cell? (ad.add j) = some u)
    (hb : (n + 1) * 24 ≤ 140737488355328)
    (hK : ∀ g cap w', w'.ownsRow 0 27 2 (.slice (some ⟨g, 0, none⟩) (n + 1) cap) (n + 1) (entC (L ++ [e])) → Turned (rowB v).toList w w' → (rowB v = some g ∨ w.heap.size ≤ g) → K (a.put o.dst (.slice (some ⟨g, 0, none⟩) (n + 1) cap)) w') :
    if Region.wanted o (yielded ops a.tmps) = true then Oper.wp Try.prog o a w K Q else E := by
  subst hn
  obtain ⟨i0, hi, hiz, hi1, hi2⟩ := infoE
  have one : ∀ u ∈ [Value.int .i64 e.1, strV e.2], u.oneCell' = true := fun u hu => by
    rcases List.mem_cons.1 hu with rfl | hu
    · rfl
    · rcases List.mem_cons.1 hu with rfl | hu
      · rfl
      · cases hu
  rcases hrow with ⟨g0, cap0, h0, rfl, hown⟩ | ⟨hL, A, rfl⟩
  · refine step_append_lies w hgd s x 23 ho 0 27 i0 _ 2 24 Try.underlying23 hi hiz hi1 hi2 rfl (by decide) _ L.length (entC L) hs hown ad 1 1 _ hx rfl hnews one (by decide) (by unfold maxLen; omega) hb (Nat.zero_le _) _ rfl ?_
    intro g cap w' hown' hg hat hlt
    refine hK g cap w' (by rw [entC_snoc]; exact hown') (Turned.ofGrown hg (fun y e => ?_)) ?_
    · simp only [Value.ownBlock, Option.some.injEq] at e
      rw [rowB_pos h0, ← e]; simp
    · rw [rowB_pos h0]
      rcases hat with hat | hat
      · exact Or.inl hat
      · exact Or.inr (Nat.le_of_eq hat.symm)
  · subst hL
    refine step_append_grows hgd s x 23 ho 27 i0 _ 2 24 Try.underlying23 hi hiz hi1 hi2 rfl (by decide) A 0 0 [] hs (fun _ => ⟨rfl, rfl⟩) rfl (fun _ _ j u h => by simp at h) ad 1 1 _ hx rfl hnews one (by decide) (by unfold maxLen; omega) (by omega) ?_
    intro v' w' hown' hg
    obtain ⟨g, cap, rfl, hge⟩ := own_ge hown' (by decide)
    refine hK g cap w' (by rw [entC_snoc]; exact own_base hown') (Turned.ofGrown hg (fun y e => by cases e)) (Or.inr hge)
theorem up_any (hb mb : Nat) (v : Value) (L : List Ent) (mo : Bool) (mv i : Nat) (w : World) (hH : HeapAt w hb mb v L mo mv) (hi : i < L.length) (hL : L.length ≤ 1152921504606846976) (hmv : mv + (upH mo L i).2 ≤ 1152921504606846976) :
    Calls Try.prog 32 #[.pointer (some ⟨hb, 0, none⟩), .int .i64 i] w fun e w' => e = .returned (.tuple #[]) ∧ HeapAt w' hb mb v (upH mo L i).1 mo (mv + (upH mo L i).2) ∧ Turned (foot hb mb v) w w' := by
  cases mo
  · exact up_false hb mb v L mv i w hH hi hL hmv
  · exact up_true hb mb v L mv i w hH hi hL hmv
theorem down_any (hb mb : Nat) (v : Value) (L : List Ent) (mo : Bool) (mv i : Nat) (w : World) (hH : HeapAt w hb mb v L mo mv) (hi : i < L.length) (hL : L.length ≤ 1152921504606846976) (hmv : mv + (downH mo L i).2 ≤ 1152921504606846976) :
    Calls Try.prog 38 #[.pointer (some ⟨hb, 0, none⟩), .int .i64 i] w fun e w' => e = .returned (.tuple #[]) ∧ HeapAt w' hb mb v (downH mo L i).1 mo (mv + (downH mo L i).2) ∧ Turned (foot hb mb v) w w' := by
  cases mo
  · exact down_false hb mb v L mv i w hH hi hL hmv
  · exact down_true hb mb v L mv i w hH hi hL hmv
set_option maxHeartbeats 2000000 in
/-- mend -/
theorem mend_any (hb mb : Nat) (v : Value) (L : List Ent) (mo : Bool) (mv i : Nat) (w : World) (hH : HeapAt w hb mb v L mo mv) (hi : i < L.length) (hL : L.length ≤ 1152921504606846976) (hmv : mv + (mendH mo L i).2 ≤ 1152921504606846976) :
    Calls Try.prog 33 #[.pointer (some ⟨hb, 0, none⟩), .int .i64 i] w fun e w' => e = .returned (.tuple #[]) ∧ HeapAt w' hb mb v (mendH mo L i).1 mo (mv + (mendH mo L i).2) ∧ Turned (foot hb mb v) w w' := by
  have hu : mv + (upH mo L i).2 ≤ 1152921504606846976 := by
    unfold mendH at hmv
    split at hmv <;> omega
  have ku := up_any hb mb v L mo mv i w hH hi hL hu
  have c3 := hH.cell3
  have HL : Bx _ := ⟨And.intro hi (And.intro hL hmv)⟩
  by_cases h0 : (upH mo L i).2 = 0
  · have hE : mendH mo L i = downH mo (upH mo L i).1 i := by unfold mendH; rw [if_pos h0]
    have HE : Bx _ := ⟨hE⟩
    rw [h0, Nat.add_zero] at ku
    have HZ : Bx _ := ⟨h0⟩
    clear hH hu h0 hE hi hL hmv
    go_enter Try.func33, Try.ntmps33
    go_wp2_with fail
    refine ku.mono ?_
    rintro e w1 ⟨rfl, h1, t1⟩
    have kd := down_any hb mb v (upH mo L i).1 mo mv i w1 h1 (by rw [upH_len]; exact HL.out.1) (by rw [upH_len]; exact HL.out.2.1) (by rw [← HE.out]; exact HL.out.2.2)
    have d3 := h1.cell3
    have HT : Bx _ := ⟨t1⟩
    clear ku h1 t1 c3
    go_wp2_with fail
    refine kd.mono ?_
    rintro e w2 ⟨rfl, h2, t2⟩
    have HF : Bx _ := ⟨And.intro h2 t2⟩
    clear kd h2 t2 d3
    go_wp2
    go_end0
    exact ⟨rfl, by rw [HE.out]; exact HF.out.1, HT.out.trans HF.out.2⟩
  · have hE : mendH mo L i = upH mo L i := by unfold mendH; rw [if_neg h0]
    have HE : Bx _ := ⟨hE⟩
    obtain ⟨M, hM⟩ : ∃ M, mv + (upH mo L i).2 = M := ⟨_, rfl⟩
    have hne : ((M : Int) == (mv : Int)) = false := by simp; omega
    rw [hM] at ku
    have HM : Bx _ := ⟨hM⟩
    clear hH hu h0 hE hi hL hmv hM
    go_enter Try.func33, Try.ntmps33
    go_wp2_with fail
    refine ku.mono ?_
    rintro e w1 ⟨rfl, h1, t1⟩
    have d3 := h1.cell3
    have HT : Bx _ := ⟨And.intro h1 t1⟩
    clear ku h1 t1 c3
    go_wp2
    go_end0
    exact ⟨rfl, by rw [HE.out, HM.out]; exact HT.out.1, HT.out.2⟩
end Go.Proofs.Ytlodgmmhaolmaaa
