/- The frame of layer acc's cards: what the four listed variables give; a world for the witness; a row of calls among the arguments. -/
import Derived.Test.YtaolkcbbkanhbaaGreatDoorLaw
import Derived.Test.YtaolkcbbkanhbaaGreatDoorAcM
import Derived.Test.YtaolkcbbkanhbaaGreatDoorOpn
import Derived.Lib.LaidU8T
import Derived.Lib.LaidIn
import Derived.Lib.LaidTab
import Derived.LaidSub
set_option linter.unusedVariables false
namespace Go.Proofs.YtaolkcbbkanhbaaGreatDoor
open Go.ChangeShapes Go.WideShapes Go.ChangeAt Go.RowKit Go.Deep
def flatV : DataW Unit → Value
  | .lit (.int q a) => .int q a
  | .lit (.bool b) => .bool b
  | _ => undef
def flatC : DataW Unit → Array Value
  | .agg xs => (xs.map flatV).toArray
  | _ => #[]
/-- the four listed variables -/
abbrev accLaid : List (String × DataW Unit) := [("math/bits.deBruijn32tab", Rows.laid_math_bits_deBruijn32tab), ("math/bits.deBruijn64tab", Rows.laid_math_bits_deBruijn64tab), ("internal/strconv.uint64pow10", Rows.laid_internal_strconv_uint64pow10), ("errors.errorType", Rows.laid_errors_errorType)]
abbrev accPlain : List (String × DataW Unit) := [("math/bits.deBruijn32tab", Rows.laid_math_bits_deBruijn32tab), ("math/bits.deBruijn64tab", Rows.laid_math_bits_deBruijn64tab), ("internal/strconv.uint64pow10", Rows.laid_internal_strconv_uint64pow10)]
theorem accLaid_plain : (accLaid.filter fun x => x.2.handleName?.isNone) = accPlain := by kernel_rfl
theorem accLaid_err : (accLaid.filter fun x => x.1 == "errors.errorType") = [("errors.errorType", Rows.laid_errors_errorType)] := by kernel_rfl
theorem pow_eq : (Rows.laid_internal_strconv_uint64pow10 : DataW Unit) = Lib.tabData .u64 Lib.pow10Tab := by kernel_rfl
theorem globA_of_laid {W : World} (h : laidMetH Tryz.prog accLaid W) : Glob W ∧ TabP W := by
  have h1 := (laidMetH_iff.1 h).1
  rw [accLaid_plain] at h1
  have h2 := h.filter (fun x => x.1 == "errors.errorType")
  rw [accLaid_err] at h2
  refine ⟨glob_of_laid h2, ?_⟩
  obtain ⟨g, t, cs, fuel, p, h1, h2, h3, h4⟩ := Lib.laidMet.reads h1 (.tail _ (.tail _ (.head _)))
  have hg : Tryz.prog.globalNamed "internal/strconv.uint64pow10" = some 1 := by kernel_rfl
  have ht : (Tryz.prog.globals[1]?).map (·.type) = some 192 := by kernel_rfl
  obtain rfl : 1 = g := Option.some.inj (hg.symm.trans h1)
  obtain rfl : 192 = t := Option.some.inj (ht.symm.trans h2)
  rw [pow_eq] at h4
  have := Lib.cells_of_tab Tryz.underlying192 Tryz.underlying36 (by kernel_rfl) (by kernel_rfl) h4
  unfold TabP Lib.TabIs
  rw [h3, ← this]
/-- A world for the witness: the settled one, the variables' cells laid. -/
noncomputable def laidWorldA (os : Os) : World :=
  let w0 := laidWorld os
  let put (h : Array Obj) (k : Nat) (cs : Array Value) : Array Obj := h.modify k fun
    | .cells _ t frozen => .cells cs t frozen
    | o => o
  let h1 := put w0.heap 2 (flatC Rows.laid_math_bits_deBruijn32tab)
  let h2 := put h1 3 (flatC Rows.laid_math_bits_deBruijn64tab)
  let h3 := put h2 1 (flatC Rows.laid_internal_strconv_uint64pow10)
  { w0 with heap := h3 }
theorem pieceA (os : Os) (args : Array Value) : LaidIn Tryz.prog ((laidWorldA os).forCall (fun _ _ => 0) ⟨#[], args, []⟩).memory accPlain [2, 3, 1] :=
  LaidIn.of_run [2, 3, 1] 8 (by kernel_rfl) (by kernel_rfl) (by kernel_rfl) (by kernel_rfl)
theorem laidWorldA_met (os : Os) (args : Array Value) : laidMetH Tryz.prog accLaid ((laidWorldA os).forCall (fun _ _ => 0) ⟨#[], args, []⟩).memory :=
  laidMetH_of_parts (by rw [accLaid_plain]; exact (pieceA os args).met) (by kernel_rfl)
section
variable {H : Type} {enc : TypeId × Value → H} {W : World}
theorem steps_opened {fuel : Nat} {A : Option Addr} {n cap : Nat} {d : DataW H} {p : List MemPlace} (h : DataW.trod enc Tryz.prog W 0 (fun _ => true) true fuel 22 [Value.slice A n cap] = some (d, p)) :
    ∃ kd sr tm nb, StepRow W A n kd sr tm nb ∧ n ≤ 9223372036854775807 ∧ (A = none → n = 0 ∧ cap = 0) ∧ (0 < n → ∃ el sp, d = .slice el sp ∧ n ≤ el.length + sp.length) := by
  obtain ⟨hn, hnone, hd, hrow⟩ := slice_each Tryz.underlying22 (show Tryz.prog.cellsOf 33 = 4 by kernel_rfl) (by decide) h
  rcases Nat.eq_zero_or_pos n with h0 | h0
  · subst h0
    exact ⟨fun _ => 0, fun _ => [], fun _ => 0, fun _ => 0, ⟨fun h => absurd h (by omega)⟩, hn, hnone, hd⟩
  · obtain ⟨b, off, rfl, hi⟩ := hrow h0
    have each : ∀ i, i < n → ∃ q : Int × List UInt8 × Int × Int, W.cell? ⟨b, off + i * 4, none⟩ = some (.int .i64 q.1) ∧ W.cell? ⟨b, off + i * 4 + 1, none⟩ = some (strV q.2.1) ∧ W.cell? ⟨b, off + i * 4 + 2, none⟩ = some (.int .i64 q.2.2.1) ∧ W.cell? ⟨b, off + i * 4 + 3, none⟩ = some (.int .i64 q.2.2.2) := by
      intro i hin
      obtain ⟨cs, fu, y, hl, hc, ht⟩ := hi i hin
      obtain ⟨v0, k0, z0, e0, t0⟩ := field_one Tryz.underlying33 ht 0 _ 0 rfl rfl (by kernel_rfl) (by omega)
      obtain ⟨v1, k1, z1, e1, t1⟩ := field_one Tryz.underlying33 ht 1 _ 1 rfl rfl (by kernel_rfl) (by omega)
      obtain ⟨v2, k2, z2, e2, t2⟩ := field_one Tryz.underlying33 ht 2 _ 2 rfl rfl (by kernel_rfl) (by omega)
      obtain ⟨v3, k3, z3, e3, t3⟩ := field_one Tryz.underlying33 ht 3 _ 3 rfl rfl (by kernel_rfl) (by omega)
      obtain ⟨a0, rfl, _⟩ := int_of Tryz.underlying3 t0
      obtain ⟨a1, rfl, _⟩ := str_of Tryz.underlying9 t1
      obtain ⟨a2, rfl, _⟩ := int_of Tryz.underlying2 t2
      obtain ⟨a3, rfl, _⟩ := int_of Tryz.underlying2 t3
      have g : ∀ j v, j < 4 → cs[j]? = some v → W.cell? ⟨b, off + i * 4 + j, none⟩ = some v := fun j v hj e => by rw [hc j hj, e]
      exact ⟨(a0, a1, a2, a3), g 0 _ (by omega) e0, g 1 _ (by omega) e1, g 2 _ (by omega) e2, g 3 _ (by omega) e3⟩
    obtain ⟨f, hf⟩ := choose_lt each
    exact ⟨fun i => (f i).1, fun i => (f i).2.1, fun i => (f i).2.2.1, fun i => (f i).2.2.2, ⟨fun _ => ⟨b, off, rfl, hf⟩⟩, hn, hnone, hd⟩
end
end Go.Proofs.YtaolkcbbkanhbaaGreatDoor
