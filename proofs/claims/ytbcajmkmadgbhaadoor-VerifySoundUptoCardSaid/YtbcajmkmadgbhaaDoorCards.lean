/-
  DERIVED. GIVEN WITH THE SEED: THE CARDS: each row of YtbcajmkmadgbhaaDoorRows.lean that lists a variable, with what it lists TIED to the program's text (the seventh form; the later family's looks); each row that meets fmt, with fmt's text TOLD by the authors' own Lean function (tested against real Go, not proved from fmt's source: count such statements apart). THE CARD IS WHAT COUNTS. Prove the row's statement (the work); the ties are given (YtbcajmkmadgbhaaDoorTie.lean); close each card by the builder's one call (the guide's Derived/Test/ToyasCard.lean, 'card_holds'). Laid BY PROGRAM, IN A SANDBOX (cutbox-door.mjs). By AI agents, Wed Nov 11 2026. No macro, syntax, notation, axiom, sorry.
-/
import Derived.Test.YtbcajmkmadgbhaaDoorRows
import GoSem.ClaimSeven
namespace Go.Proofs.YtbcajmkmadgbhaaDoor
namespace Rows

/-- THE TIED CARD OF 'weirlaw19.VerifyPasses'. -/
def verifyPassesCard : Claim7 := { stood := { row := verifyPassesRow, standIns := [], harness := (true, "4bbebc0933cf6b2dac1a672926ec35ad6d815951e5040c6fb8db123a345bf856"), looks := true }, kinds := [], alts := [], laidByText := true, laidKinds := [.data, .handle, .data, .pinned], laidTests := true, laidLooks := .later }
def VerifyPassesCardSaid : Prop := Claim7.holds Tryd.pinned (.plain (OpenSpec.ofChange verifyPassesSpec)) verifyPassesCard

/-- THE TIED CARD OF 'weirlaw19.VerifyMore'. -/
def verifyMoreCard : Claim7 := { stood := { row := verifyMoreRow, standIns := [], harness := (true, "4bbebc0933cf6b2dac1a672926ec35ad6d815951e5040c6fb8db123a345bf856"), looks := true }, kinds := [], alts := [], laidByText := true, laidKinds := [.data, .handle, .data, .pinned], laidTests := true, laidLooks := .later }
def VerifyMoreCardSaid : Prop := Claim7.holds Tryd.pinned (.plain (OpenSpec.ofChange verifyMoreSpec)) verifyMoreCard

/-- THE TIED CARD OF 'weirlaw19.VerifySound'. -/
def verifySoundCard : Claim7 := { stood := { row := verifySoundRow, standIns := [], harness := (true, "4bbebc0933cf6b2dac1a672926ec35ad6d815951e5040c6fb8db123a345bf856"), looks := true }, kinds := [], alts := [], laidByText := true, laidKinds := [.data, .handle, .data, .pinned], laidTests := true, laidLooks := .later }
def VerifySoundCardSaid : Prop := Claim7.holds Tryd.pinned (.plain (OpenSpec.ofChange verifySoundSpec)) verifySoundCard

/-- THE SECOND FORM's CARD OF 'weirlaw19.VerifyPasses'. -/
def verifyPassesUptoCard : Claim7 := { stood := { row := verifyPassesUptoRow, standIns := [], harness := (true, "4bbebc0933cf6b2dac1a672926ec35ad6d815951e5040c6fb8db123a345bf856"), looks := true }, kinds := [], alts := [], laidByText := true, laidKinds := [.data, .handle, .data, .pinned], laidTests := true, laidLooks := .later }
def VerifyPassesUptoCardSaid : Prop := Claim7.holds Tryd.pinned (.plain (OpenSpec.upto verifyPassesSpec)) verifyPassesUptoCard

/-- THE SECOND FORM's CARD OF 'weirlaw19.VerifyMore'. -/
def verifyMoreUptoCard : Claim7 := { stood := { row := verifyMoreUptoRow, standIns := [], harness := (true, "4bbebc0933cf6b2dac1a672926ec35ad6d815951e5040c6fb8db123a345bf856"), looks := true }, kinds := [], alts := [], laidByText := true, laidKinds := [.data, .handle, .data, .pinned], laidTests := true, laidLooks := .later }
def VerifyMoreUptoCardSaid : Prop := Claim7.holds Tryd.pinned (.plain (OpenSpec.upto verifyMoreSpec)) verifyMoreUptoCard

/-- THE SECOND FORM's CARD OF 'weirlaw19.VerifySound'. -/
def verifySoundUptoCard : Claim7 := { stood := { row := verifySoundUptoRow, standIns := [], harness := (true, "4bbebc0933cf6b2dac1a672926ec35ad6d815951e5040c6fb8db123a345bf856"), looks := true }, kinds := [], alts := [], laidByText := true, laidKinds := [.data, .handle, .data, .pinned], laidTests := true, laidLooks := .later }
def VerifySoundUptoCardSaid : Prop := Claim7.holds Tryd.pinned (.plain (OpenSpec.upto verifySoundSpec)) verifySoundUptoCard
end Rows
end Go.Proofs.YtbcajmkmadgbhaaDoor
