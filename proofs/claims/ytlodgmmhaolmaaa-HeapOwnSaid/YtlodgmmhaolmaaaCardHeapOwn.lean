/- HeapOwn: for every script and every entry the call returns true; the arguments read as they did. -/
import Derived.Test.YtlodgmmhaolmaaaLaw
import Derived.Test.YtlodgmmhaolmaaaHpO
import Derived.Test.YtlodgmmhaolmaaaOwn
import Derived.SizedLaws
import Derived.Lib.SmallJoins
set_option linter.unusedVariables false
namespace Go.Proofs.Ytlodgmmhaolmaaa.fnHeapOwn
open Go.ChangeShapes Go.WideShapes Go.ChangeAt Go.RowKit

set_option maxRecDepth 100000 in
theorem contract (H : Type) (enc : TypeId × Value → H) (W : World) (base : Nat) (args : Array Value) (ds gs : List (DataW H)) (before : List MemPlace)
    (hval : ∀ (j : Nat) t v, Try.f5.params[j]? = some t → args[j]? = some v → Value.okWide Try.prog W .any base t v)
    (hW : DataW.Whole enc Try.prog Try.f5.params.toList Rows.heapOwnSpec.vars false W args.toList ds gs before)
    (hreach : (DataW.weightsEach Try.prog (Try.f5.params.toList ++ []) (ds ++ gs)).all (· ≤ reachBytes) = true)
    : Calls Try.prog 5 args W fun e W' => ∃ v, e = .returned v ∧ Rows.heapOwnSpec.post enc Try.prog Try.f5 false true false false W args v W' := by
  have hW' := hW
  obtain ⟨p, q, hA0, hV, hpq, hfz, hnd⟩ := hW
  have hA : DataW.TrodAll enc Try.prog W 0 (fun _ => true) true Try.f5.params.toList args.toList ds p := hA0
  rw [Try.params5] at hA hval
  obtain ⟨v0, vs0, d0, ds0, p0, q0, hargs, rfl, rfl, h0, r0⟩ := trodAll_cons hA
  obtain ⟨v1, vs1, d1, ds1, p1, q1, rfl, rfl, rfl, h1, r1⟩ := trodAll_cons r0
  obtain ⟨rfl, rfl, rfl⟩ := trodAll_nil r1
  obtain rfl : args = #[v0, v1] := by cases args; simp_all
  obtain ⟨rfl, rfl⟩ := trodVars_none hV
  have hfn : Rows.heapOwnSpec.fn H ([d0, d1] ++ []) = { results := [.lit (.bool true)], args := [d0, d1] } := rfl
  have hpost : ∀ W', Below W.heap.size W W' → Rows.heapOwnSpec.post enc Try.prog Try.f5 false true false false W #[v0, v1] (.bool true) W' := fun W' hb =>
    law_post rfl (by kernel_rfl) Try.underlying4 laidOut (by rw [Try.params5]; intro t ht; simp only [List.mem_cons, List.not_mem_nil, or_false] at ht; rcases ht with rfl | rfl; all_goals exact ⟨by kernel_rfl, of_decide_eq_true (by kernel_rfl)⟩) hW' hfn hb
  clear hA0 hfn hW' hfz hnd hpq
  obtain ⟨A0, n0, k0, hv0⟩ := okWide_slice Try.underlying22 (hval 0 22 v0 rfl rfl)
  subst hv0
  have cz : Try.prog.cellsOf 27 = 2 := by kernel_rfl
  obtain ⟨u0, u1, y0, y1, m, rfl, rfl, rfl, hy0, hy1⟩ := Go.Joins.open_agg2 Try.underlying27 (by kernel_rfl) cz (hval 1 27 v1 rfl rfl) h1
  obtain ⟨r, rfl, _⟩ := int_of Try.underlying2 hy0
  obtain ⟨s, rfl, hs⟩ := str_of Try.underlying9 hy1
  obtain ⟨fuel0, hf0⟩ := h0
  obtain ⟨kd, en, x1, x2, x5, hops, _, _, hd0⟩ := ops_opened hf0
  have hm0 : n0 * 72 ≤ 140737488351232 := by
    rcases Nat.eq_zero_or_pos n0 with h | h
    · omega
    · obtain ⟨el, sp, rfl, hle⟩ := hd0 h
      have hb := Go.sized_slice hreach (j := 0) (t := 22) (e := 29) rfl rfl Try.underlying22
      rw [show Try.prog.bytesOf 29 = 72 by kernel_rfl] at hb
      unfold reachBytes at hb
      omega
  have walk : Calls Try.prog 5 #[.slice A0 n0 k0, .agg #[.int .i64 r, strV s]] W fun e w' => e = .returned (.bool true) ∧ Below W.heap.size W w'
    := own_law A0 n0 k0 kd en x1 x2 x5 r s W hops (by omega) hs
  refine walk.mono fun e W' ⟨he, hb⟩ => ?_
  subst he
  exact ⟨_, rfl, hpost W' hb⟩

theorem reads (os : Os) {H : Type} (enc : TypeId × Value → H) : ∃ places, DataW.whole enc Try.prog ((World.holding Try.prog os ⟨#[], #[], []⟩).forCall (fun _ _ => 0) ⟨#[], #[.slice none 0 0, .agg #[.int .i64 0, .string ⟨#[]⟩]], []⟩).memory Try.f5.params.toList Rows.heapOwnSpec.vars false (#[.slice none 0 0, .agg #[.int .i64 0, .string ⟨#[]⟩]] : Array Value).toList 8 = some ([.nil, .agg [.lit (.int .i64 0), .lit (.string [])]], [], places) :=
  ⟨[], by kernel_rfl⟩

set_option maxRecDepth 100000 in
theorem lifted (os : Os) (started : os.Started) (H : Type) (enc : TypeId × Value → H) (F : Stop.Interp) :
    ReturnsInHanded {} Try.checked os 5 .any ((OpenSpec.ofChange Rows.heapOwnSpec).preRow enc Try.prog Try.f5 Rows.heapOwnRow.domain false Rows.heapOwnRow.laid) (((OpenSpec.ofChange Rows.heapOwnSpec).at F).post enc Try.prog Try.f5 false true false false) := by
  obtain ⟨places, hx⟩ := reads os enc
  refine returnsInHanded_of_row (C := Try.checked) (s := (OpenSpec.ofChange Rows.heapOwnSpec)) own started (by kernel_rfl) Try.func5
    (witness_row_at (enc := enc) (C := Try.checked) false (World.holding Try.prog os ⟨#[], #[], []⟩) #[.slice none 0 0, .agg #[.int .i64 0, .string ⟨#[]⟩]] rfl (by kernel_rfl) (by kernel_rfl) (by kernel_rfl)
      (OpenSpec.preRow_of_cond 8 hx (by kernel_rfl) (fun k hk => by cases hk) (by kernel_rfl) (laidMetH_nil _ _))) ?_
  intro W base args ds gs before hval hW _ hcond hreach hL _ _
  exact contract H enc W base args ds gs before hval hW hreach

theorem said : Rows.HeapOwnSaid :=
  OpenClaim.holds_of_cond 5 Try.f5 rfl rfl rfl rfl rfl rfl rfl ⟨rfl, rfl, rfl, rfl, rfl⟩ rfl rfl rfl rfl rfl (by kernel_rfl) Try.func5 (by kernel_rfl)
    (of_decide_eq_true (by kernel_rfl)) (by unfold Func.isWrapper; rw [if_neg (of_decide_eq_false (by kernel_rfl))]; exact ⟨rfl, rfl⟩)
    (fun os started H enc _ F => by rw [OpenClaim.pre_eq_preRow]; exact lifted os started H enc F)
#print axioms said
end Go.Proofs.Ytlodgmmhaolmaaa.fnHeapOwn
