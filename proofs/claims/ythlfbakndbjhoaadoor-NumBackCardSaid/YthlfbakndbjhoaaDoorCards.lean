/-
  DERIVED. GIVEN WITH THE SEED: THE CARDS: each row of YthlfbakndbjhoaaDoorRows.lean that lists a variable, with what it lists TIED to the program's text (the seventh form; the later family's looks); each row that meets fmt, with fmt's text TOLD by the authors' own Lean function (tested against real Go, not proved from fmt's source: count such statements apart). THE CARD IS WHAT COUNTS. Prove the row's statement (the work); the ties are given (YthlfbakndbjhoaaDoorTie.lean); close each card by the builder's one call (the guide's Derived/Test/ToyasCard.lean, 'card_holds'). Laid BY PROGRAM, IN A SANDBOX (cutbox-door.mjs). By AI agents, Wed Nov 11 2026. No macro, syntax, notation, axiom, sorry.
-/
import Derived.Test.YthlfbakndbjhoaaDoorRows
import GoSem.ClaimSeven
namespace Go.Proofs.YthlfbakndbjhoaaDoor
namespace Rows

/-- THE TIED CARD OF 'weirlaw02.NumDivides'. -/
def numDividesCard : Claim7 := { stood := { row := numDividesRow, standIns := [], harness := (true, "4f1d9421d0e93adea38d76a066a79d947cfd84822a2af4901e2a52fb36a46aef"), looks := true }, kinds := [], alts := [], laidByText := true, laidKinds := [.handle], laidTests := true, laidLooks := .later }
def NumDividesCardSaid : Prop := Claim7.holds Tryd.pinned (.plain (OpenSpec.ofChange numDividesSpec)) numDividesCard

/-- THE TIED CARD OF 'weirlaw02.NumWindow'. -/
def numWindowCard : Claim7 := { stood := { row := numWindowRow, standIns := [], harness := (true, "4f1d9421d0e93adea38d76a066a79d947cfd84822a2af4901e2a52fb36a46aef"), looks := true }, kinds := [], alts := [], laidByText := true, laidKinds := [.handle], laidTests := true, laidLooks := .later }
def NumWindowCardSaid : Prop := Claim7.holds Tryd.pinned (.plain (OpenSpec.ofChange numWindowSpec)) numWindowCard

/-- THE TIED CARD OF 'weirlaw02.NumAnyOrder'. -/
def numAnyOrderCard : Claim7 := { stood := { row := numAnyOrderRow, standIns := [], harness := (true, "4f1d9421d0e93adea38d76a066a79d947cfd84822a2af4901e2a52fb36a46aef"), looks := true }, kinds := [], alts := [], laidByText := true, laidKinds := [.handle], laidTests := true, laidLooks := .later }
def NumAnyOrderCardSaid : Prop := Claim7.holds Tryd.pinned (.plain (OpenSpec.ofChange numAnyOrderSpec)) numAnyOrderCard

/-- THE TIED CARD OF 'weirlaw02.NumReckons'. -/
def numReckonsCard : Claim7 := { stood := { row := numReckonsRow, standIns := [], harness := (true, "4f1d9421d0e93adea38d76a066a79d947cfd84822a2af4901e2a52fb36a46aef"), looks := true }, kinds := [], alts := [], laidByText := true, laidKinds := [.handle], laidTests := true, laidLooks := .later }
def NumReckonsCardSaid : Prop := Claim7.holds Tryd.pinned (.plain (OpenSpec.ofChange numReckonsSpec)) numReckonsCard

/-- THE TIED CARD OF 'weirlaw02.NumWindows'. -/
def numWindowsCard : Claim7 := { stood := { row := numWindowsRow, standIns := [], harness := (true, "4f1d9421d0e93adea38d76a066a79d947cfd84822a2af4901e2a52fb36a46aef"), looks := true }, kinds := [], alts := [], laidByText := true, laidKinds := [.handle], laidTests := true, laidLooks := .later }
def NumWindowsCardSaid : Prop := Claim7.holds Tryd.pinned (.plain (OpenSpec.ofChange numWindowsSpec)) numWindowsCard

/-- THE TIED CARD OF 'weirlaw02.NumBetween'. -/
def numBetweenCard : Claim7 := { stood := { row := numBetweenRow, standIns := [], harness := (true, "4f1d9421d0e93adea38d76a066a79d947cfd84822a2af4901e2a52fb36a46aef"), looks := true }, kinds := [], alts := [], laidByText := true, laidKinds := [.handle], laidTests := true, laidLooks := .later }
def NumBetweenCardSaid : Prop := Claim7.holds Tryd.pinned (.plain (OpenSpec.ofChange numBetweenSpec)) numBetweenCard

/-- THE TIED CARD OF 'weirlaw02.NumParses'. -/
def numParsesCard : Claim7 := { stood := { row := numParsesRow, standIns := [], harness := (true, "4f1d9421d0e93adea38d76a066a79d947cfd84822a2af4901e2a52fb36a46aef"), looks := true }, kinds := [], alts := [], laidByText := true, laidKinds := [.handle], laidTests := true, laidLooks := .later }
def NumParsesCardSaid : Prop := Claim7.holds Tryd.pinned (.plain (OpenSpec.ofChange numParsesSpec)) numParsesCard

/-- THE TIED CARD OF 'weirlaw02.NumBack'. -/
def numBackCard : Claim7 := { stood := { row := numBackRow, standIns := [], harness := (true, "4f1d9421d0e93adea38d76a066a79d947cfd84822a2af4901e2a52fb36a46aef"), looks := true }, kinds := [], alts := [], laidByText := true, laidKinds := [.handle], laidTests := true, laidLooks := .later }
def NumBackCardSaid : Prop := Claim7.holds Tryd.pinned (.plain (OpenSpec.ofChange numBackSpec)) numBackCard

/-- THE TIED CARD OF 'weirlaw02.NumSums'. -/
def numSumsCard : Claim7 := { stood := { row := numSumsRow, standIns := [], harness := (true, "4f1d9421d0e93adea38d76a066a79d947cfd84822a2af4901e2a52fb36a46aef"), looks := true }, kinds := [], alts := [], laidByText := true, laidKinds := [.handle], laidTests := true, laidLooks := .later }
def NumSumsCardSaid : Prop := Claim7.holds Tryd.pinned (.plain (OpenSpec.ofChange numSumsSpec)) numSumsCard

/-- THE SECOND FORM's CARD OF 'weirlaw02.NumDivides'. -/
def numDividesUptoCard : Claim7 := { stood := { row := numDividesUptoRow, standIns := [], harness := (true, "4f1d9421d0e93adea38d76a066a79d947cfd84822a2af4901e2a52fb36a46aef"), looks := true }, kinds := [], alts := [], laidByText := true, laidKinds := [.handle], laidTests := true, laidLooks := .later }
def NumDividesUptoCardSaid : Prop := Claim7.holds Tryd.pinned (.plain (OpenSpec.upto numDividesSpec)) numDividesUptoCard

/-- THE SECOND FORM's CARD OF 'weirlaw02.NumWindow'. -/
def numWindowUptoCard : Claim7 := { stood := { row := numWindowUptoRow, standIns := [], harness := (true, "4f1d9421d0e93adea38d76a066a79d947cfd84822a2af4901e2a52fb36a46aef"), looks := true }, kinds := [], alts := [], laidByText := true, laidKinds := [.handle], laidTests := true, laidLooks := .later }
def NumWindowUptoCardSaid : Prop := Claim7.holds Tryd.pinned (.plain (OpenSpec.upto numWindowSpec)) numWindowUptoCard

/-- THE SECOND FORM's CARD OF 'weirlaw02.NumAnyOrder'. -/
def numAnyOrderUptoCard : Claim7 := { stood := { row := numAnyOrderUptoRow, standIns := [], harness := (true, "4f1d9421d0e93adea38d76a066a79d947cfd84822a2af4901e2a52fb36a46aef"), looks := true }, kinds := [], alts := [], laidByText := true, laidKinds := [.handle], laidTests := true, laidLooks := .later }
def NumAnyOrderUptoCardSaid : Prop := Claim7.holds Tryd.pinned (.plain (OpenSpec.upto numAnyOrderSpec)) numAnyOrderUptoCard

/-- THE SECOND FORM's CARD OF 'weirlaw02.NumReckons'. -/
def numReckonsUptoCard : Claim7 := { stood := { row := numReckonsUptoRow, standIns := [], harness := (true, "4f1d9421d0e93adea38d76a066a79d947cfd84822a2af4901e2a52fb36a46aef"), looks := true }, kinds := [], alts := [], laidByText := true, laidKinds := [.handle], laidTests := true, laidLooks := .later }
def NumReckonsUptoCardSaid : Prop := Claim7.holds Tryd.pinned (.plain (OpenSpec.upto numReckonsSpec)) numReckonsUptoCard

/-- THE SECOND FORM's CARD OF 'weirlaw02.NumWindows'. -/
def numWindowsUptoCard : Claim7 := { stood := { row := numWindowsUptoRow, standIns := [], harness := (true, "4f1d9421d0e93adea38d76a066a79d947cfd84822a2af4901e2a52fb36a46aef"), looks := true }, kinds := [], alts := [], laidByText := true, laidKinds := [.handle], laidTests := true, laidLooks := .later }
def NumWindowsUptoCardSaid : Prop := Claim7.holds Tryd.pinned (.plain (OpenSpec.upto numWindowsSpec)) numWindowsUptoCard

/-- THE SECOND FORM's CARD OF 'weirlaw02.NumBetween'. -/
def numBetweenUptoCard : Claim7 := { stood := { row := numBetweenUptoRow, standIns := [], harness := (true, "4f1d9421d0e93adea38d76a066a79d947cfd84822a2af4901e2a52fb36a46aef"), looks := true }, kinds := [], alts := [], laidByText := true, laidKinds := [.handle], laidTests := true, laidLooks := .later }
def NumBetweenUptoCardSaid : Prop := Claim7.holds Tryd.pinned (.plain (OpenSpec.upto numBetweenSpec)) numBetweenUptoCard

/-- THE SECOND FORM's CARD OF 'weirlaw02.NumParses'. -/
def numParsesUptoCard : Claim7 := { stood := { row := numParsesUptoRow, standIns := [], harness := (true, "4f1d9421d0e93adea38d76a066a79d947cfd84822a2af4901e2a52fb36a46aef"), looks := true }, kinds := [], alts := [], laidByText := true, laidKinds := [.handle], laidTests := true, laidLooks := .later }
def NumParsesUptoCardSaid : Prop := Claim7.holds Tryd.pinned (.plain (OpenSpec.upto numParsesSpec)) numParsesUptoCard

/-- THE SECOND FORM's CARD OF 'weirlaw02.NumBack'. -/
def numBackUptoCard : Claim7 := { stood := { row := numBackUptoRow, standIns := [], harness := (true, "4f1d9421d0e93adea38d76a066a79d947cfd84822a2af4901e2a52fb36a46aef"), looks := true }, kinds := [], alts := [], laidByText := true, laidKinds := [.handle], laidTests := true, laidLooks := .later }
def NumBackUptoCardSaid : Prop := Claim7.holds Tryd.pinned (.plain (OpenSpec.upto numBackSpec)) numBackUptoCard

/-- THE SECOND FORM's CARD OF 'weirlaw02.NumSums'. -/
def numSumsUptoCard : Claim7 := { stood := { row := numSumsUptoRow, standIns := [], harness := (true, "4f1d9421d0e93adea38d76a066a79d947cfd84822a2af4901e2a52fb36a46aef"), looks := true }, kinds := [], alts := [], laidByText := true, laidKinds := [.handle], laidTests := true, laidLooks := .later }
def NumSumsUptoCardSaid : Prop := Claim7.holds Tryd.pinned (.plain (OpenSpec.upto numSumsSpec)) numSumsUptoCard
end Rows
end Go.Proofs.YthlfbakndbjhoaaDoor
