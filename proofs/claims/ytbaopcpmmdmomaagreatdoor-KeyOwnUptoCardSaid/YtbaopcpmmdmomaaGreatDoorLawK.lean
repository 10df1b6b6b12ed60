/- The frame of layer key's cards: what the three listed variables give; a world for the witness. -/
import Derived.Test.YtbaopcpmmdmomaaGreatDoorLaw
import Derived.Test.YtbaopcpmmdmomaaGreatDoorKeyD
import Derived.Lib.LaidU8T
import Derived.Lib.LaidIn
import Derived.PinnedBridge
import Derived.LaidSub
namespace Go.Proofs.YtbaopcpmmdmomaaGreatDoor
open Go.ChangeShapes Go.WideShapes Go.ChangeAt Go.RowKit
/-- the three listed variables -/
abbrev keyLaid : List (String × DataW Unit) := [("unicode/utf8.acceptRanges", Rows.laid_unicode_utf8_acceptRanges), ("errors.errorType", Rows.laid_errors_errorType), ("unicode/utf8.first", Rows.laid_unicode_utf8_first)]
theorem keyLaid_plain : (keyLaid.filter fun x => x.2.handleName?.isNone) = [("unicode/utf8.acceptRanges", Rows.laid_unicode_utf8_acceptRanges), ("unicode/utf8.first", Rows.laid_unicode_utf8_first)] := by kernel_rfl
theorem keyLaid_err : (keyLaid.filter fun x => x.1 == "errors.errorType") = [("errors.errorType", Rows.laid_errors_errorType)] := by kernel_rfl
theorem acc_eq : (Rows.laid_unicode_utf8_acceptRanges : DataW Unit) = Lib.acceptData := by kernel_rfl
theorem first_eq : Rows.laid_unicode_utf8_first = Lib.firstData := Pinned.utf8First_eq
theorem globK_of_laid {W : World} (h : laidMetH Tryz.prog keyLaid W) : GlobK W := by
  have h1 := (laidMetH_iff.1 h).1
  rw [keyLaid_plain] at h1
  have h2 := h.filter (fun x => x.1 == "errors.errorType")
  rw [keyLaid_err] at h2
  refine ⟨glob_of_laid h2, ?_⟩
  have r4 := Lib.laidMet.reads h1 (.head _)
  have r3 := Lib.laidMet.reads h1 (.tail _ (.head _))
  rw [acc_eq] at r4
  rw [first_eq] at r3
  exact utf8Tabs_of_readsT (ρ := Tryz.lays196_ren) (U8Types.of196 Tryz.lays196) ⟨by kernel_rfl, by kernel_rfl, by kernel_rfl, by kernel_rfl, by kernel_rfl, by kernel_rfl, by kernel_rfl⟩ r3 r4
/-- A world for the witness: the settled one, the variables' cells laid. -/
noncomputable def laidWorldK (os : Os) : World :=
  let w0 := laidWorld os
  let put (h : Array Obj) (k : Nat) (cs : Array Value) : Array Obj := h.modify k fun
    | .cells _ t frozen => .cells cs t frozen
    | o => o
  let h1 := put w0.heap 1 (Lib.firstTab.map fun z => Value.int .u8 z).toArray
  let h2 := put h1 2 ((List.range 16).flatMap fun i => [Value.int .u8 (Lib.accLo i), Value.int .u8 (Lib.accHi i)]).toArray
  { w0 with heap := h2 }
theorem pieceK (os : Os) (args : Array Value) : LaidIn Tryz.prog ((laidWorldK os).forCall (fun _ _ => 0) ⟨#[], args, []⟩).memory [("unicode/utf8.acceptRanges", Rows.laid_unicode_utf8_acceptRanges), ("unicode/utf8.first", Rows.laid_unicode_utf8_first)] [2, 1] :=
  LaidIn.of_run [2, 1] 8 (by kernel_rfl) (by kernel_rfl) (by kernel_rfl) (by kernel_rfl)
theorem laidWorldK_met (os : Os) (args : Array Value) : laidMetH Tryz.prog keyLaid ((laidWorldK os).forCall (fun _ _ => 0) ⟨#[], args, []⟩).memory :=
  laidMetH_of_parts (by rw [keyLaid_plain]; exact (pieceK os args).met) (by kernel_rfl)
end Go.Proofs.YtbaopcpmmdmomaaGreatDoor
