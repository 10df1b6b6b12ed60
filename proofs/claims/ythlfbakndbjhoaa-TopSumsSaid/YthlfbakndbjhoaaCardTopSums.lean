/- TopSums: for every sum, every list of int64 and every list of int the call returns true; the arguments read as they did. -/
import Derived.Test.YthlfbakndbjhoaaLaw
import Derived.Test.YthlfbakndbjhoaaTsz
import Derived.SizedLaws
import Derived.Lib.SmallJoins
namespace Go.Proofs.Ythlfbakndbjhoaa.fnTopSums
open Go.ChangeShapes Go.WideShapes Go.ChangeAt Go.RowKit

set_option maxRecDepth 100000 in
theorem contract (H : Type) (enc : TypeId × Value → H) (W : World) (base : Nat) (args : Array Value) (ds gs : List (DataW H)) (before : List MemPlace)
    (hval : ∀ (j : Nat) t v, Try.f3.params[j]? = some t → args[j]? = some v → Value.okWide Try.prog W .any base t v)
    (hW : DataW.Whole enc Try.prog Try.f3.params.toList Rows.topSumsSpec.vars false W args.toList ds gs before)
    (hreach : (DataW.weightsEach Try.prog (Try.f3.params.toList ++ []) (ds ++ gs)).all (· ≤ reachBytes) = true)
    : Calls Try.prog 3 args W fun e W' => ∃ v, e = .returned v ∧ Rows.topSumsSpec.post enc Try.prog Try.f3 false true false false W args v W' := by
  have hW' := hW
  obtain ⟨p, q, hA0, hV, hpq, hfz, hnd⟩ := hW
  have hA : DataW.TrodAll enc Try.prog W 0 (fun _ => true) true Try.f3.params.toList args.toList ds p := hA0
  rw [Try.params3] at hA hval
  obtain ⟨v0, vs0, d0, ds0, p0, q0, hargs, rfl, rfl, h0, r0⟩ := trodAll_cons hA
  obtain ⟨v1, vs1, d1, ds1, p1, q1, rfl, rfl, rfl, h1, r1⟩ := trodAll_cons r0
  obtain ⟨v2, vs2, d2, ds2, p2, q2, rfl, rfl, rfl, h2, r2⟩ := trodAll_cons r1
  obtain ⟨rfl, rfl, rfl⟩ := trodAll_nil r2
  obtain rfl : args = #[v0, v1, v2] := by cases args; simp_all
  obtain ⟨rfl, rfl⟩ := trodVars_none hV
  have hfn : Rows.topSumsSpec.fn H ([d0, d1, d2] ++ []) = { results := [.lit (.bool true)], args := [d0, d1, d2] } := rfl
  have hpost : ∀ W', Below W.heap.size W W' → Rows.topSumsSpec.post enc Try.prog Try.f3 false true false false W #[v0, v1, v2] (.bool true) W' := fun W' hb =>
    law_post rfl (by kernel_rfl) Try.underlying4 laidOut (by rw [Try.params3]; intro t ht; simp only [List.mem_cons, List.not_mem_nil, or_false] at ht; rcases ht with rfl | rfl | rfl; all_goals exact ⟨by kernel_rfl, of_decide_eq_true (by kernel_rfl)⟩) hW' hfn hb
  clear hA0 hfn hW' hfz hnd hpq
  have cz : Try.prog.cellsOf 24 = 2 := by kernel_rfl
  obtain ⟨c0, c1, y0, y1, m, rfl, rfl, rfl, hy0, hy1⟩ := Go.Joins.open_agg2 Try.underlying24 (by kernel_rfl) cz (hval 0 24 v0 rfl rfl) h0
  obtain ⟨h, e0, rfl, w0⟩ := DataW.trod_int Try.underlying2 hy0
  obtain ⟨l, e1, rfl, w1⟩ := DataW.trod_int Try.underlying22 hy1
  simp only [List.cons.injEq, and_true] at e0 e1
  subst e0 e1
  have b0 := bounds_i64 w0
  have b1 := bounds_u64 w1
  obtain ⟨A0, n0, k0, hv0⟩ := okWide_slice Try.underlying25 (hval 1 25 v1 rfl rfl)
  subst hv0
  obtain ⟨A1, n1, k1, hv1⟩ := okWide_slice Try.underlying26 (hval 2 26 v2 rfl rfl)
  subst hv1
  obtain ⟨fuel0, hf0⟩ := h1
  obtain ⟨fuel1, hf1⟩ := h2
  obtain ⟨f, hr, hz, _, hs⟩ := ints_opened Try.underlying25 Try.underlying2 (by kernel_rfl) hf0
  obtain ⟨g, hr2, hz2, hm2, _⟩ := ints_opened Try.underlying26 Try.underlying3 (by kernel_rfl) hf1
  have hN : A0 = none → k0 = 0 := by
    rintro rfl
    exact ints_none Try.underlying25 Try.underlying2 (by kernel_rfl) hf0
  have hmax : n0 ≤ 17592186044416 := by
    rcases Nat.eq_zero_or_pos n0 with h | h
    · omega
    · obtain ⟨el, sp, rfl, hle⟩ := hs h
      have hb := Go.sized_slice hreach (j := 1) (t := 25) (e := 2) rfl rfl Try.underlying25
      rw [show Try.prog.bytesOf 2 = 8 by kernel_rfl] at hb
      unfold reachBytes at hb
      omega
  have walk : Calls Try.prog 3 #[.agg #[.int .i64 h, .int .u64 l], .slice A0 n0 k0, .slice A1 n1 k1] W fun e w' => e = .returned (.bool true) ∧ Below W.heap.size W w'
    := by
      rcases Nat.eq_zero_or_pos n0 with hn | hn
      · subst hn
        exact sums_zero A0 A1 k0 n1 k1 h l W ⟨b0.1, b0.2, b1.1, b1.2⟩ hm2 hN
      · obtain ⟨b, off, rfl, hrow⟩ := hr hn
        exact sums_pos b off n0 k0 n1 k1 A1 h l f g W ⟨b0.1, b0.2, b1.1, b1.2⟩ hn hmax hm2 hrow (fun i hi => ⟨(hz i hi).1, (hz i hi).2⟩) hr2 (fun i hi => ⟨(hz2 i hi).1, (hz2 i hi).2⟩)
  refine walk.mono fun e W' ⟨he, hb⟩ => ?_
  subst he
  exact ⟨_, rfl, hpost W' hb⟩

theorem reads (os : Os) {H : Type} (enc : TypeId × Value → H) : ∃ places, DataW.whole enc Try.prog ((World.holding Try.prog os ⟨#[], #[], []⟩).forCall (fun _ _ => 0) ⟨#[], #[.agg #[.int .i64 0, .int .u64 0], .slice none 0 0, .slice none 0 0], []⟩).memory Try.f3.params.toList Rows.topSumsSpec.vars false (#[.agg #[.int .i64 0, .int .u64 0], .slice none 0 0, .slice none 0 0] : Array Value).toList 8 = some ([.agg [.lit (.int .i64 0), .lit (.int .u64 0)], .nil, .nil], [], places) :=
  ⟨[], by kernel_rfl⟩

set_option maxRecDepth 100000 in
theorem lifted (os : Os) (started : os.Started) (H : Type) (enc : TypeId × Value → H) (F : Stop.Interp) :
    ReturnsInHanded {} Try.checked os 3 .any ((OpenSpec.ofChange Rows.topSumsSpec).preRow enc Try.prog Try.f3 Rows.topSumsRow.domain false Rows.topSumsRow.laid) (((OpenSpec.ofChange Rows.topSumsSpec).at F).post enc Try.prog Try.f3 false true false false) := by
  obtain ⟨places, hx⟩ := reads os enc
  refine returnsInHanded_of_row (C := Try.checked) (s := (OpenSpec.ofChange Rows.topSumsSpec)) own started (by kernel_rfl) Try.func3
    (witness_row_at (enc := enc) (C := Try.checked) false (World.holding Try.prog os ⟨#[], #[], []⟩) #[.agg #[.int .i64 0, .int .u64 0], .slice none 0 0, .slice none 0 0] rfl (by kernel_rfl) (by kernel_rfl) (by kernel_rfl)
      (OpenSpec.preRow_of_cond 8 hx (by kernel_rfl) (fun k hk => by cases hk) (by kernel_rfl) (laidMetH_nil _ _))) ?_
  intro W base args ds gs before hval hW _ hcond hreach hL _ _
  exact contract H enc W base args ds gs before hval hW hreach

theorem said : Rows.TopSumsSaid :=
  OpenClaim.holds_of_cond 3 Try.f3 rfl rfl rfl rfl rfl rfl rfl ⟨rfl, rfl, rfl, rfl, rfl⟩ rfl rfl rfl rfl rfl (by kernel_rfl) Try.func3 (by kernel_rfl)
    (of_decide_eq_true (by kernel_rfl)) (by unfold Func.isWrapper; rw [if_neg (of_decide_eq_false (by kernel_rfl))]; exact ⟨rfl, rfl⟩)
    (fun os started H enc _ F => by rw [OpenClaim.pre_eq_preRow]; exact lifted os started H enc F)
#print axioms said
end Go.Proofs.Ythlfbakndbjhoaa.fnTopSums
