/- A world in which the three tables that TopNames' row lists hold what the program's text lays in them. -/
import Derived.Test.YtlodgmmhaolmaaaDoorLaw
import Derived.Lib.LaidU8T
import Derived.Lib.LaidIn
import Derived.LaidSub
namespace Go.Proofs.YtlodgmmhaolmaaaDoor
open Go.ChangeShapes Go.WideShapes Go.ChangeAt Go.RowKit
def flatV : DataW Unit → Value
  | .lit (.int q a) => .int q a
  | .lit (.bool b) => .bool b
  | _ => undef
def flatC : DataW Unit → Array Value
  | .agg xs => (xs.map flatV).toArray
  | _ => #[]
noncomputable def laidWorldN (os : Os) : World :=
  let w0 := World.holding Tryd.prog os ⟨#[], #[], []⟩
  let put (h : Array Obj) (k : Nat) (cs : Array Value) : Array Obj := h.modify k fun
    | .cells _ t frozen => .cells cs t frozen
    | o => o
  let h1 := put w0.heap 2 (flatC Rows.laid_math_bits_deBruijn32tab)
  let h2 := put h1 3 (flatC Rows.laid_math_bits_deBruijn64tab)
  let h3 := put h2 1 (flatC Rows.laid_internal_strconv_uint64pow10)
  { w0 with heap := h3 }
abbrev namesLaid : List (String × DataW Unit) := [("math/bits.deBruijn32tab", Rows.laid_math_bits_deBruijn32tab), ("math/bits.deBruijn64tab", Rows.laid_math_bits_deBruijn64tab), ("internal/strconv.uint64pow10", Rows.laid_internal_strconv_uint64pow10)]
theorem pieceN (os : Os) (args : Array Value) : LaidIn Tryd.prog ((laidWorldN os).forCall (fun _ _ => 0) ⟨#[], args, []⟩).memory namesLaid [2, 3, 1] :=
  LaidIn.of_run [2, 3, 1] 8 (by kernel_rfl) (by kernel_rfl) (by kernel_rfl) (by kernel_rfl)
theorem namesLaid_plain : (namesLaid.filter fun x => x.2.handleName?.isNone) = namesLaid := by kernel_rfl
theorem laidWorldN_met (os : Os) (args : Array Value) : laidMetH Tryd.prog namesLaid ((laidWorldN os).forCall (fun _ _ => 0) ⟨#[], args, []⟩).memory :=
  laidMetH_of_parts (by rw [namesLaid_plain]; exact (pieceN os args).met) (by kernel_rfl)
end Go.Proofs.YtlodgmmhaolmaaaDoor
