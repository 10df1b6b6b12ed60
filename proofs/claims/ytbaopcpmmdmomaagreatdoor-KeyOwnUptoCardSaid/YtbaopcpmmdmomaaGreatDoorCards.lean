/-
  DERIVED. GIVEN WITH THE SEED: THE CARDS: each row of YtbaopcpmmdmomaaGreatDoorRows.lean that lists a variable, with what it lists TIED to the program's text (the seventh form; the later family's looks); each row that meets fmt, with fmt's text TOLD by the authors' own Lean function (tested against real Go, not proved from fmt's source: count such statements apart). THE CARD IS WHAT COUNTS. Prove the row's statement (the work); the ties are given (YtbaopcpmmdmomaaGreatDoorTie.lean); close each card by the builder's one call (the guide's Derived/Test/ToyasCard.lean, 'card_holds'). Laid BY PROGRAM, IN A SANDBOX (cutbox-door.mjs). By AI agents, Wed Nov 11 2026. No macro, syntax, notation, axiom, sorry.
-/
import Derived.Test.YtbaopcpmmdmomaaGreatDoorRows
import GoSem.ClaimSeven
namespace Go.Proofs.YtbaopcpmmdmomaaGreatDoor
namespace Rows

/-- THE TIED CARD OF 'weirlaw05.KeyOwn'. -/
def keyOwnCard : Claim7 := { stood := { row := keyOwnRow, standIns := [], harness := (true, "e4beba8e3cbb1c3a38d18e0a3288a75a1173ff5475138edf29c3c86d82dd2072"), looks := true }, kinds := [], alts := [], laidByText := true, laidKinds := [.data, .handle, .pinned], laidTests := true, laidLooks := .later }
def KeyOwnCardSaid : Prop := Claim7.holds Tryz.pinned (.plain (OpenSpec.ofChange keyOwnSpec)) keyOwnCard

/-- THE SECOND FORM's CARD OF 'weirlaw05.KeyOwn'. -/
def keyOwnUptoCard : Claim7 := { stood := { row := keyOwnUptoRow, standIns := [], harness := (true, "e4beba8e3cbb1c3a38d18e0a3288a75a1173ff5475138edf29c3c86d82dd2072"), looks := true }, kinds := [], alts := [], laidByText := true, laidKinds := [.data, .handle, .pinned], laidTests := true, laidLooks := .later }
def KeyOwnUptoCardSaid : Prop := Claim7.holds Tryz.pinned (.plain (OpenSpec.upto keyOwnSpec)) keyOwnUptoCard
end Rows
end Go.Proofs.YtbaopcpmmdmomaaGreatDoor
