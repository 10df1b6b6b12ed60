/- The heap: append to its row; mend. -/
import Derived.Test.YtaolkcbbkanhbaaGreatDoorHpE
import Derived.Deep.AppendLies
import Derived.Deep.RegionLawGrows
import Derived.Deep.DeepAppendWide
import Derived.Laws.OwnMore
import Derived.ArgAppend
set_option linter.unusedSimpArgs false
set_option linter.unusedVariables false
namespace Go.Proofs.YtaolkcbbkanhbaaGreatDoor
open Go.RowKit
theorem own_base {w : World} {b n : Nat} {e : TypeId} {size : Nat} {v : Value} {xs : List Value} (h : w.ownsRow b e size v n xs) : w.ownsRow 0 e size v n xs := by
  obtain ⟨h1, h2 | ⟨g, cap, cur, hv, _, r⟩⟩ := h
  · exact ⟨h1, Or.inl h2⟩
  · exact ⟨h1, Or.inr ⟨g, cap, cur, hv, Nat.zero_le _, r⟩⟩
theorem own_ge {w : World} {b n : Nat} {e : TypeId} {size : Nat} {v : Value} {xs : List Value} (h : w.ownsRow b e size v n xs) (hn : 0 < n) : ∃ g cap, v = .slice (some ⟨g, 0, none⟩) n cap ∧ b ≤ g := by
  obtain ⟨h1, h2 | ⟨g, cap, cur, hv, hb, r⟩⟩ := h
  · omega
  · exact ⟨g, cap, hv, hb⟩
theorem infoE : ∃ i, Tryz.prog.info? 117 = some i ∧ i.zero = some (.agg #[.int .i64 0, .string ⟨#[]⟩]) ∧ i.size = 2 ∧ i.bytes = 24 :=
  info_parts (show (Tryz.prog.info? 117).map (fun i => (i.zero, i.size, i.bytes)) = some (some (.agg #[.int .i64 0, .string ⟨#[]⟩]), 2, 24) by kernel_rfl)
theorem entC_snoc (L : List Ent) (e : Ent) : entC (L ++ [e]) = entC L ++ [.int .i64 e.1, strV e.2] := by rw [entC_app]; simp [entC]
/-- a bound above 2^47, as the wide laws want it -/
theorem wideN {m : Nat} (h1 : m ≤ 9382499223000) : (m + m / 4 + 192) * 24 ≤ 281474976710656 := by
  have h2 : m / 4 ≤ 2345624805750 := by
    have := Nat.div_le_div_right (c := 4) h1
    exact this
  have h3 : m + m / 4 + 192 ≤ 11728124028942 := by
    have := Nat.add_le_add (Nat.add_le_add h1 h2) (Nat.le_refl 192)
    exact this
  exact Nat.le_trans (Nat.mul_le_mul_right 24 h3) (by decide)
theorem wideE {n : Nat} (h : (n + 1) * 24 ≤ 225179981352000) : ((n + 1) + (n + 1) / 4 + 192) * 24 ≤ 281474976710656 :=
  wideN (Nat.le_of_mul_le_mul_right (c := 24) (Nat.le_trans h (by decide)) (by decide))
theorem wideZ {n : Nat} (h : n * 24 ≤ 225179981352000) : ((0 + n) + (0 + n) / 4 + 192) * 24 ≤ 281474976710656 :=
  wideN (by have h1 : n ≤ 9382499223000 := Nat.le_of_mul_le_mul_right (c := 24) (Nat.le_trans h (by decide)) (by decide)
            exact Nat.le_trans (Nat.le_of_eq (Nat.zero_add n)) h1)
/-- append one entry: in its row, or in a new one -/
theorem run_append_row (v : Value) (L : List Ent) (e : Ent) (w : World) (hrow : RowE w v L) (ad : Addr) (hnews : ∀ j u, [Value.int .i64 e.1, strV e.2][j]? = some u → w.cell? (ad.add j) = some u) (hb : (L.length + 1) * 24 ≤ 225179981352000) (ty : TypeId) :
    ∃ g cap w', (Builtin.append_ #[113, 113] ty #[v, .slice (some ad) 1 1]).run Tryz.prog w = .ok (.slice (some ⟨g, 0, none⟩) (L.length + 1) cap) w' ∧ w'.ownsRow 0 117 2 (.slice (some ⟨g, 0, none⟩) (L.length + 1) cap) (L.length + 1) (entC (L ++ [e])) ∧ ((rowB v = some g ∧ w.grownBy w' (some g)) ∨ (w.heap.size ≤ g ∧ w.grownBy w' none)) := by
  obtain ⟨i0, hi, hiz, hi1, hi2⟩ := infoE
  have one : ∀ u ∈ [Value.int .i64 e.1, strV e.2], u.oneCell' = true := fun u hu => by
    rcases List.mem_cons.1 hu with rfl | hu
    · rfl
    · rcases List.mem_cons.1 hu with rfl | hu
      · rfl
      · cases hu
  have hw := wideE hb
  have hmax : L.length + 1 ≤ maxLen := by unfold maxLen; omega
  rcases hrow with ⟨g0, cap0, h0, rfl, hown⟩ | ⟨hL, A, rfl⟩
  · rcases Nat.lt_or_ge cap0 (L.length + 1) with hf | hr
    · obtain ⟨v', w', hrun, r1, r2, _⟩ := run_append_own_wide (P := Tryz.prog) w 0 113 ty 117 i0 _ 2 24 Tryz.underlying113 hi hiz hi1 hi2 rfl (by decide) _ L.length (entC L) hown ad 1 1 [Value.int .i64 e.1, strV e.2] rfl hnews one hmax hw (Nat.zero_le _)
      have hrun2 := run_append_grow (P := Tryz.prog) w 113 ty 117 i0 _ Tryz.underlying113 hi hiz ⟨g0, 0, none⟩ L.length cap0 (entC L) (by rw [hi1]; exact entC_len L) (hown.cells (g := g0) rfl) ad 1 1 [Value.int .i64 e.1, strV e.2] (by rw [hi1]; rfl) hnews hf (by unfold maxLen at hmax; omega) (growslice_fits_wide (by omega) (by rw [hi2]; omega))
      rw [hrun] at hrun2
      injection hrun2 with ev ew
      subst ev ew
      exact ⟨_, _, _, hrun, by rw [entC_snoc]; exact r1, Or.inr ⟨Nat.le_refl _, rfl, rfl, rfl, by simp, fun k hk _ => heap_alloc_old w.drew _ hk⟩⟩
    · obtain ⟨w', hrun, h1, h2⟩ := run_append_fits (P := Tryz.prog) w 0 113 ty 117 i0 2 Tryz.underlying113 hi hi1 g0 L.length cap0 (entC L) hown ad 1 1 _ rfl hnews one hr
      exact ⟨g0, cap0, w', hrun, by rw [entC_snoc]; exact h1, Or.inl ⟨rowB_pos h0, h2⟩⟩
  · subst hL
    cases A with
    | none =>
      obtain ⟨g, cap, w', hrun, h1, h2, hat, hlt⟩ := run_append_lies (P := Tryz.prog) w 113 ty 0 117 i0 _ 2 24 Tryz.underlying113 hi hiz hi1 hi2 rfl (by decide) (.slice none 0 0) 0 [] (World.ownsRow_nil _ _ _ _) ad 1 1 _ rfl hnews one (by decide) hmax (by simp only [Nat.zero_add]; decide) (Nat.zero_le _) _ rfl
      refine ⟨g, cap, w', hrun, by rw [entC_snoc]; exact h1, Or.inr ⟨?_, h2⟩⟩
      rcases hat with e1 | e1
      · cases e1
      · exact Nat.le_of_eq e1.symm
    | some b =>
      obtain ⟨v', w', hrun, r1, r2⟩ := run_append_arg_grows (P := Tryz.prog) w 113 ty 117 i0 _ 2 24 Tryz.underlying113 hi hiz hi1 hi2 rfl (by decide) b 0 0 [] rfl (fun j u h => by simp at h) ad 1 1 _ rfl hnews (by decide) hmax (by omega)
      obtain ⟨g, cap, rfl, hge⟩ := own_ge r1 (by omega)
      exact ⟨g, cap, w', hrun, by rw [entC_snoc]; exact own_base r1, Or.inr ⟨hge, r2⟩⟩
theorem step_append_row {ops : Array Oper} {o : Oper} {a : Act} {w : World} {K : Act → World → Prop} {Q : Exit → Act → World → Prop} {E : Prop} (hgd : o.guard = none) (s x : Operand)
    (ho : o.op = .call { callee := .builtin .append, args := #[s, x], argTypes := #[113, 113] })
    (v : Value) (L : List Ent) (n : Nat) (hn : L.length = n) (e : Ent) (hs : a.eval s = v) (hrow : RowE w v L) (ad : Addr) (hx : a.eval x = .slice (some ad) 1 1) (hnews : ∀ j u, [Value.int .i64 e.1, strV e.2][j]? = some u → w.cell? (ad.add j) = some u)
    (hb : (n + 1) * 24 ≤ 225179981352000)
    (hK : ∀ g cap w', w'.ownsRow 0 117 2 (.slice (some ⟨g, 0, none⟩) (n + 1) cap) (n + 1) (entC (L ++ [e])) → Turned (rowB v).toList w w' → (rowB v = some g ∨ w.heap.size ≤ g) → K (a.put o.dst (.slice (some ⟨g, 0, none⟩) (n + 1) cap)) w') :
    if Region.wanted o (yielded ops a.tmps) = true then Oper.wp Tryz.prog o a w K Q else E := by
  subst hn
  have hw : Region.wanted o (yielded ops a.tmps) = true := by simp [Region.wanted, hgd]
  rw [if_pos hw]
  obtain ⟨g, cap, w', hr, h2, h3⟩ := run_append_row v L e w hrow ad hnews hb o.type
  unfold Oper.wp execOp
  simp only [ho, resolve, invoke, builtin, Sem.run_bind, Sem.run_pure, Result.andThen_ok, List.map_toArray, List.map_cons, List.map_nil, hs, hx, hr]
  refine hK g cap w' h2 ?_ ?_
  · rcases h3 with ⟨e1, h⟩ | ⟨_, h⟩
    · exact Turned.ofGrown h (fun y e => by injection e with e; subst e; rw [e1]; simp)
    · exact (Turned.ofGrown (S := []) h (fun y e => by cases e)).more (by simp)
  · rcases h3 with ⟨e1, _⟩ | ⟨h, _⟩
    · exact Or.inl e1
    · exact Or.inr h
theorem up_any (hb mb : Nat) (v : Value) (L : List Ent) (mo : Bool) (mv i : Nat) (w : World) (hH : HeapAt w hb mb v L mo mv) (hi : i < L.length) (hL : L.length ≤ 1152921504606846976) (hmv : mv + (upH mo L i).2 ≤ 1152921504606846976) :
    Calls Tryz.prog 124 #[.pointer (some ⟨hb, 0, none⟩), .int .i64 i] w fun e w' => e = .returned (.tuple #[]) ∧ HeapAt w' hb mb v (upH mo L i).1 mo (mv + (upH mo L i).2) ∧ Turned (foot hb mb v) w w' := by
  cases mo
  · exact up_false hb mb v L mv i w hH hi hL hmv
  · exact up_true hb mb v L mv i w hH hi hL hmv
theorem down_any (hb mb : Nat) (v : Value) (L : List Ent) (mo : Bool) (mv i : Nat) (w : World) (hH : HeapAt w hb mb v L mo mv) (hi : i < L.length) (hL : L.length ≤ 1152921504606846976) (hmv : mv + (downH mo L i).2 ≤ 1152921504606846976) :
    Calls Tryz.prog 127 #[.pointer (some ⟨hb, 0, none⟩), .int .i64 i] w fun e w' => e = .returned (.tuple #[]) ∧ HeapAt w' hb mb v (downH mo L i).1 mo (mv + (downH mo L i).2) ∧ Turned (foot hb mb v) w w' := by
  cases mo
  · exact down_false hb mb v L mv i w hH hi hL hmv
  · exact down_true hb mb v L mv i w hH hi hL hmv
set_option maxHeartbeats 2000000 in
/-- mend -/
theorem mend_any (hb mb : Nat) (v : Value) (L : List Ent) (mo : Bool) (mv i : Nat) (w : World) (hH : HeapAt w hb mb v L mo mv) (hi : i < L.length) (hL : L.length ≤ 1152921504606846976) (hmv : mv + (mendH mo L i).2 ≤ 1152921504606846976) :
    Calls Tryz.prog 125 #[.pointer (some ⟨hb, 0, none⟩), .int .i64 i] w fun e w' => e = .returned (.tuple #[]) ∧ HeapAt w' hb mb v (mendH mo L i).1 mo (mv + (mendH mo L i).2) ∧ Turned (foot hb mb v) w w' := by
  have hu : mv + (upH mo L i).2 ≤ 1152921504606846976 := by
    unfold mendH at hmv
    split at hmv <;> omega
  have ku := up_any hb mb v L mo mv i w hH hi hL hu
  have c3 := hH.cell3
  have HL : Bx _ := ⟨And.intro hi (And.intro hL hmv)⟩
  by_cases h0 : (upH mo L i).2 = 0
  · have hE : mendH mo L i = downH mo (upH mo L i).1 i := by unfold mendH; rw [if_pos h0]
    have HE : Bx _ := ⟨hE⟩
    rw [h0, Nat.add_zero] at ku
    have HZ : Bx _ := ⟨h0⟩
    clear hH hu h0 hE hi hL hmv
    go_enter Tryz.func125, Tryz.ntmps125
    go_wp2_with fail
    refine ku.mono ?_
    rintro e w1 ⟨rfl, h1, t1⟩
    have kd := down_any hb mb v (upH mo L i).1 mo mv i w1 h1 (by rw [upH_len]; exact HL.out.1) (by rw [upH_len]; exact HL.out.2.1) (by rw [← HE.out]; exact HL.out.2.2)
    have d3 := h1.cell3
    have HT : Bx _ := ⟨t1⟩
    clear ku h1 t1 c3
    go_wp2_with fail
    refine kd.mono ?_
    rintro e w2 ⟨rfl, h2, t2⟩
    have HF : Bx _ := ⟨And.intro h2 t2⟩
    clear kd h2 t2 d3
    go_wp2
    go_end0
    exact ⟨rfl, by rw [HE.out]; exact HF.out.1, HT.out.trans HF.out.2⟩
  · have hE : mendH mo L i = upH mo L i := by unfold mendH; rw [if_neg h0]
    have HE : Bx _ := ⟨hE⟩
    obtain ⟨M, hM⟩ : ∃ M, mv + (upH mo L i).2 = M := ⟨_, rfl⟩
    have hne : ((M : Int) == (mv : Int)) = false := by simp; omega
    rw [hM] at ku
    have HM : Bx _ := ⟨hM⟩
    clear hH hu h0 hE hi hL hmv hM
    go_enter Tryz.func125, Tryz.ntmps125
    go_wp2_with fail
    refine ku.mono ?_
    rintro e w1 ⟨rfl, h1, t1⟩
    have d3 := h1.cell3
    have HT : Bx _ := ⟨And.intro h1 t1⟩
    clear ku h1 t1 c3
    go_wp2
    go_end0
    exact ⟨rfl, by rw [HE.out, HM.out]; exact HT.out.1, HT.out.2⟩
end Go.Proofs.YtaolkcbbkanhbaaGreatDoor
