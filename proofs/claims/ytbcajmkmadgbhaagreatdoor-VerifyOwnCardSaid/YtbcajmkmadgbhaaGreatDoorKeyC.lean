/- strings.Builder: copyCheck and WriteByte at this translation (the refusal stands in copyCheck's panic alone). -/
import Derived.Test.YtbcajmkmadgbhaaGreatDoorKeyA
import Derived.Test.YtbcajmkmadgbhaaGreatDoorShelf
import Derived.Laws.Externs
set_option linter.unusedSimpArgs false
set_option linter.unusedVariables false
namespace Go.Proofs.YtbcajmkmadgbhaaGreatDoor
open Go.RowKit
theorem byteCells_snoc (l : List UInt8) (c : UInt8) : Lib.byteCells (l ++ [c]) = Lib.byteCells l ++ [.int .u8 (c.toNat : Int)] := by simp [Lib.byteCells]
theorem byteCells_len (l : List UInt8) : (Lib.byteCells l).length = l.length := by simp [Lib.byteCells]
end Go.Proofs.YtbcajmkmadgbhaaGreatDoor
