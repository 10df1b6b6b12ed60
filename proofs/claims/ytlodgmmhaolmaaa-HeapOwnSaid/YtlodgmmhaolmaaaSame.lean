/- weirboth.Is and weirboth.Same at a nil error and at an error of a number. Condition: errors.errorType holds the handle of the type error. -/
import Derived.Test.YtlodgmmhaolmaaaAs
import Derived.Deep.RegionHeld3
import Derived.Deep.QuietTactic
import Derived.BigQuiet
set_option linter.unusedSimpArgs false
set_option linter.unusedVariables false
namespace Go.Proofs.Ytlodgmmhaolmaaa
open Go.RowKit

/-- an error of a number -/
abbrev errV (c : Int) : Value := .iface 91 (.int .i64 c)
/-- the document's error of a number -/
abbrev badV (c : Int) : Value := .agg #[.int .i64 c, .int .i64 0, .int .i64 0, .bool false, .bool false]

theorem bcell {W w1 : World} (hb : Below W.heap.size W w1) : (∀ b o, b < W.heap.size → w1.cell? ⟨b, o, none⟩ = W.cell? ⟨b, o, none⟩) ∧ (∀ b o, b < W.heap.size → w1.frozen? ⟨b, o, none⟩ = W.frozen? ⟨b, o, none⟩) :=
  ⟨fun b o h => hb.cell (p := ⟨b, o, none⟩) h, fun b o h => hb.frozen (p := ⟨b, o, none⟩) h⟩
theorem below_of_grown {w w' : World} {g B : Nat} (h : w.grownBy w' (some g)) (hg : B ≤ g) (hB : B ≤ w.heap.size) : Below B w w' :=
  ⟨h.os, h.tape, h.output, h.size, fun k hk => h.block k (by omega) (by simp; omega)⟩

end Go.Proofs.Ytlodgmmhaolmaaa
