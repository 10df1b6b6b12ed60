/-
  DERIVED. GIVEN WITH THE SEED: THE CARDS: each row of YtbcajmkmadgbhaaGreatDoorRows.lean that lists a variable, with what it lists TIED to the program's text (the seventh form; the later family's looks); each row that meets fmt, with fmt's text TOLD by the authors' own Lean function (tested against real Go, not proved from fmt's source: count such statements apart). THE CARD IS WHAT COUNTS. Prove the row's statement (the work); the ties are given (YtbcajmkmadgbhaaGreatDoorTie.lean); close each card by the builder's one call (the guide's Derived/Test/ToyasCard.lean, 'card_holds'). Laid BY PROGRAM, IN A SANDBOX (cutbox-door.mjs). By AI agents, Wed Nov 11 2026. No macro, syntax, notation, axiom, sorry.
-/
import Derived.Test.YtbcajmkmadgbhaaGreatDoorRows
import GoSem.ClaimSeven
namespace Go.Proofs.YtbcajmkmadgbhaaGreatDoor
namespace Rows

/-- THE TIED CARD OF 'weirlaw19.VerifyOwn'. -/
def verifyOwnCard : Claim7 := { stood := { row := verifyOwnRow, standIns := [], harness := (true, "05106a16aca678bc537a717ccc32bc5d3be1a6f492815565591f2a84d385ecbb"), looks := true }, kinds := [], alts := [], laidByText := true, laidKinds := [.data, .handle, .data, .pinned], laidTests := true, laidLooks := .later }
def VerifyOwnCardSaid : Prop := Claim7.holds Tryz.pinned (.plain (OpenSpec.ofChange verifyOwnSpec)) verifyOwnCard

/-- THE TIED CARD OF 'weirlaw19.VerifyHeights'. -/
def verifyHeightsCard : Claim7 := { stood := { row := verifyHeightsRow, standIns := [], harness := (true, "05106a16aca678bc537a717ccc32bc5d3be1a6f492815565591f2a84d385ecbb"), looks := true }, kinds := [], alts := [], laidByText := true, laidKinds := [.data, .handle, .data, .pinned], laidTests := true, laidLooks := .later }
def VerifyHeightsCardSaid : Prop := Claim7.holds Tryz.pinned (.plain (OpenSpec.ofChange verifyHeightsSpec)) verifyHeightsCard

/-- THE SECOND FORM's CARD OF 'weirlaw19.VerifyOwn'. -/
def verifyOwnUptoCard : Claim7 := { stood := { row := verifyOwnUptoRow, standIns := [], harness := (true, "05106a16aca678bc537a717ccc32bc5d3be1a6f492815565591f2a84d385ecbb"), looks := true }, kinds := [], alts := [], laidByText := true, laidKinds := [.data, .handle, .data, .pinned], laidTests := true, laidLooks := .later }
def VerifyOwnUptoCardSaid : Prop := Claim7.holds Tryz.pinned (.plain (OpenSpec.upto verifyOwnSpec)) verifyOwnUptoCard

/-- THE SECOND FORM's CARD OF 'weirlaw19.VerifyHeights'. -/
def verifyHeightsUptoCard : Claim7 := { stood := { row := verifyHeightsUptoRow, standIns := [], harness := (true, "05106a16aca678bc537a717ccc32bc5d3be1a6f492815565591f2a84d385ecbb"), looks := true }, kinds := [], alts := [], laidByText := true, laidKinds := [.data, .handle, .data, .pinned], laidTests := true, laidLooks := .later }
def VerifyHeightsUptoCardSaid : Prop := Claim7.holds Tryz.pinned (.plain (OpenSpec.upto verifyHeightsSpec)) verifyHeightsUptoCard
end Rows
end Go.Proofs.YtbcajmkmadgbhaaGreatDoor
