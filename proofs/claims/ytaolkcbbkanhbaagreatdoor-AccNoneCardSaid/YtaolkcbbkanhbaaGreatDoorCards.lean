/-
  DERIVED. GIVEN WITH THE SEED: THE CARDS: each row of YtaolkcbbkanhbaaGreatDoorRows.lean that lists a variable, with what it lists TIED to the program's text (the seventh form; the later family's looks); each row that meets fmt, with fmt's text TOLD by the authors' own Lean function (tested against real Go, not proved from fmt's source: count such statements apart). THE CARD IS WHAT COUNTS. Prove the row's statement (the work); the ties are given (YtaolkcbbkanhbaaGreatDoorTie.lean); close each card by the builder's one call (the guide's Derived/Test/ToyasCard.lean, 'card_holds'). Laid BY PROGRAM, IN A SANDBOX (cutbox-door.mjs). By AI agents, Wed Nov 11 2026. No macro, syntax, notation, axiom, sorry.
-/
import Derived.Test.YtaolkcbbkanhbaaGreatDoorRows
import GoSem.ClaimSeven
namespace Go.Proofs.YtaolkcbbkanhbaaGreatDoor
namespace Rows

/-- THE TIED CARD OF 'weirlaw22.AccWays'. -/
def accWaysCard : Claim7 := { stood := { row := accWaysRow, standIns := [], harness := (true, "91e0bb0b061c8ea65e0ad8fbb1568f438276c276dfc414b662fbbd6263b7902a"), looks := true }, kinds := [], alts := [], laidByText := true, laidKinds := [.data, .data, .data, .handle], laidTests := true, laidLooks := .later }
def AccWaysCardSaid : Prop := Claim7.holds Tryz.pinned (.plain (OpenSpec.ofChange accWaysSpec)) accWaysCard

/-- THE TIED CARD OF 'weirlaw22.AccBounds'. -/
def accBoundsCard : Claim7 := { stood := { row := accBoundsRow, standIns := [], harness := (true, "91e0bb0b061c8ea65e0ad8fbb1568f438276c276dfc414b662fbbd6263b7902a"), looks := true }, kinds := [], alts := [], laidByText := true, laidKinds := [.data, .data, .data, .handle], laidTests := true, laidLooks := .later }
def AccBoundsCardSaid : Prop := Claim7.holds Tryz.pinned (.plain (OpenSpec.ofChange accBoundsSpec)) accBoundsCard

/-- THE TIED CARD OF 'weirlaw22.AccBack'. -/
def accBackCard : Claim7 := { stood := { row := accBackRow, standIns := [], harness := (true, "91e0bb0b061c8ea65e0ad8fbb1568f438276c276dfc414b662fbbd6263b7902a"), looks := true }, kinds := [], alts := [], laidByText := true, laidKinds := [.data, .data, .data, .handle], laidTests := true, laidLooks := .later }
def AccBackCardSaid : Prop := Claim7.holds Tryz.pinned (.plain (OpenSpec.ofChange accBackSpec)) accBackCard

/-- THE TIED CARD OF 'weirlaw22.AccPlays'. -/
def accPlaysCard : Claim7 := { stood := { row := accPlaysRow, standIns := [], harness := (true, "91e0bb0b061c8ea65e0ad8fbb1568f438276c276dfc414b662fbbd6263b7902a"), looks := true }, kinds := [], alts := [], laidByText := true, laidKinds := [.data, .data, .data, .handle], laidTests := true, laidLooks := .later }
def AccPlaysCardSaid : Prop := Claim7.holds Tryz.pinned (.plain (OpenSpec.ofChange accPlaysSpec)) accPlaysCard

/-- THE TIED CARD OF 'weirlaw22.AccSeldom'. -/
def accSeldomCard : Claim7 := { stood := { row := accSeldomRow, standIns := [], harness := (true, "91e0bb0b061c8ea65e0ad8fbb1568f438276c276dfc414b662fbbd6263b7902a"), looks := true }, kinds := [], alts := [], laidByText := true, laidKinds := [.data, .data, .data, .handle], laidTests := true, laidLooks := .later }
def AccSeldomCardSaid : Prop := Claim7.holds Tryz.pinned (.plain (OpenSpec.ofChange accSeldomSpec)) accSeldomCard

/-- THE TIED CARD OF 'weirlaw22.AccFork'. -/
def accForkCard : Claim7 := { stood := { row := accForkRow, standIns := [], harness := (true, "91e0bb0b061c8ea65e0ad8fbb1568f438276c276dfc414b662fbbd6263b7902a"), looks := true }, kinds := [], alts := [], laidByText := true, laidKinds := [.data, .data, .data, .handle], laidTests := true, laidLooks := .later }
def AccForkCardSaid : Prop := Claim7.holds Tryz.pinned (.plain (OpenSpec.ofChange accForkSpec)) accForkCard

/-- THE TIED CARD OF 'weirlaw22.AccNone'. -/
def accNoneCard : Claim7 := { stood := { row := accNoneRow, standIns := [], harness := (true, "91e0bb0b061c8ea65e0ad8fbb1568f438276c276dfc414b662fbbd6263b7902a"), looks := true }, kinds := [], alts := [], laidByText := true, laidKinds := [.data, .data, .data, .handle], laidTests := true, laidLooks := .later }
def AccNoneCardSaid : Prop := Claim7.holds Tryz.pinned (.plain (OpenSpec.ofChange accNoneSpec)) accNoneCard

/-- THE SECOND FORM's CARD OF 'weirlaw22.AccWays'. -/
def accWaysUptoCard : Claim7 := { stood := { row := accWaysUptoRow, standIns := [], harness := (true, "91e0bb0b061c8ea65e0ad8fbb1568f438276c276dfc414b662fbbd6263b7902a"), looks := true }, kinds := [], alts := [], laidByText := true, laidKinds := [.data, .data, .data, .handle], laidTests := true, laidLooks := .later }
def AccWaysUptoCardSaid : Prop := Claim7.holds Tryz.pinned (.plain (OpenSpec.upto accWaysSpec)) accWaysUptoCard

/-- THE SECOND FORM's CARD OF 'weirlaw22.AccBounds'. -/
def accBoundsUptoCard : Claim7 := { stood := { row := accBoundsUptoRow, standIns := [], harness := (true, "91e0bb0b061c8ea65e0ad8fbb1568f438276c276dfc414b662fbbd6263b7902a"), looks := true }, kinds := [], alts := [], laidByText := true, laidKinds := [.data, .data, .data, .handle], laidTests := true, laidLooks := .later }
def AccBoundsUptoCardSaid : Prop := Claim7.holds Tryz.pinned (.plain (OpenSpec.upto accBoundsSpec)) accBoundsUptoCard

/-- THE SECOND FORM's CARD OF 'weirlaw22.AccBack'. -/
def accBackUptoCard : Claim7 := { stood := { row := accBackUptoRow, standIns := [], harness := (true, "91e0bb0b061c8ea65e0ad8fbb1568f438276c276dfc414b662fbbd6263b7902a"), looks := true }, kinds := [], alts := [], laidByText := true, laidKinds := [.data, .data, .data, .handle], laidTests := true, laidLooks := .later }
def AccBackUptoCardSaid : Prop := Claim7.holds Tryz.pinned (.plain (OpenSpec.upto accBackSpec)) accBackUptoCard

/-- THE SECOND FORM's CARD OF 'weirlaw22.AccPlays'. -/
def accPlaysUptoCard : Claim7 := { stood := { row := accPlaysUptoRow, standIns := [], harness := (true, "91e0bb0b061c8ea65e0ad8fbb1568f438276c276dfc414b662fbbd6263b7902a"), looks := true }, kinds := [], alts := [], laidByText := true, laidKinds := [.data, .data, .data, .handle], laidTests := true, laidLooks := .later }
def AccPlaysUptoCardSaid : Prop := Claim7.holds Tryz.pinned (.plain (OpenSpec.upto accPlaysSpec)) accPlaysUptoCard

/-- THE SECOND FORM's CARD OF 'weirlaw22.AccSeldom'. -/
def accSeldomUptoCard : Claim7 := { stood := { row := accSeldomUptoRow, standIns := [], harness := (true, "91e0bb0b061c8ea65e0ad8fbb1568f438276c276dfc414b662fbbd6263b7902a"), looks := true }, kinds := [], alts := [], laidByText := true, laidKinds := [.data, .data, .data, .handle], laidTests := true, laidLooks := .later }
def AccSeldomUptoCardSaid : Prop := Claim7.holds Tryz.pinned (.plain (OpenSpec.upto accSeldomSpec)) accSeldomUptoCard

/-- THE SECOND FORM's CARD OF 'weirlaw22.AccFork'. -/
def accForkUptoCard : Claim7 := { stood := { row := accForkUptoRow, standIns := [], harness := (true, "91e0bb0b061c8ea65e0ad8fbb1568f438276c276dfc414b662fbbd6263b7902a"), looks := true }, kinds := [], alts := [], laidByText := true, laidKinds := [.data, .data, .data, .handle], laidTests := true, laidLooks := .later }
def AccForkUptoCardSaid : Prop := Claim7.holds Tryz.pinned (.plain (OpenSpec.upto accForkSpec)) accForkUptoCard

/-- THE SECOND FORM's CARD OF 'weirlaw22.AccNone'. -/
def accNoneUptoCard : Claim7 := { stood := { row := accNoneUptoRow, standIns := [], harness := (true, "91e0bb0b061c8ea65e0ad8fbb1568f438276c276dfc414b662fbbd6263b7902a"), looks := true }, kinds := [], alts := [], laidByText := true, laidKinds := [.data, .data, .data, .handle], laidTests := true, laidLooks := .later }
def AccNoneUptoCardSaid : Prop := Claim7.holds Tryz.pinned (.plain (OpenSpec.upto accNoneSpec)) accNoneUptoCard
end Rows
end Go.Proofs.YtaolkcbbkanhbaaGreatDoor
