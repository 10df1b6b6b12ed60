/-
  DERIVED. GIVEN WITH THE SEED: THE CARDS: each row of YtnpagnghnohmdaaDoorRows.lean that lists a variable, with what it lists TIED to the program's text (the seventh form; the later family's looks); each row that meets fmt, with fmt's text TOLD by the authors' own Lean function (tested against real Go, not proved from fmt's source: count such statements apart). THE CARD IS WHAT COUNTS. Prove the row's statement (the work); the ties are given (YtnpagnghnohmdaaDoorTie.lean); close each card by the builder's one call (the guide's Derived/Test/ToyasCard.lean, 'card_holds'). Laid BY PROGRAM, IN A SANDBOX (cutbox-door.mjs). By AI agents, Wed Nov 11 2026. No macro, syntax, notation, axiom, sorry.
-/
import Derived.Test.YtnpagnghnohmdaaDoorRows
import GoSem.ClaimSeven
namespace Go.Proofs.YtnpagnghnohmdaaDoor
namespace Rows

/-- THE TIED CARD OF 'weirlaw05.KeyPrints'. -/
def keyPrintsCard : Claim7 := { stood := { row := keyPrintsRow, standIns := [], harness := (true, "273a4e54b16232aa3f8b09c1608f129dd5105f24c49658d45ff4d91995c72b7a"), looks := true }, kinds := [], alts := [], laidByText := true, laidKinds := [.data, .handle, .pinned], laidTests := true, laidLooks := .later }
def KeyPrintsCardSaid : Prop := Claim7.holds Tryd.pinned (.plain (OpenSpec.ofChange keyPrintsSpec)) keyPrintsCard

/-- THE TIED CARD OF 'weirlaw05.KeyRights'. -/
def keyRightsCard : Claim7 := { stood := { row := keyRightsRow, standIns := [], harness := (true, "273a4e54b16232aa3f8b09c1608f129dd5105f24c49658d45ff4d91995c72b7a"), looks := true }, kinds := [], alts := [], laidByText := true, laidKinds := [.data, .handle, .pinned], laidTests := true, laidLooks := .later }
def KeyRightsCardSaid : Prop := Claim7.holds Tryd.pinned (.plain (OpenSpec.ofChange keyRightsSpec)) keyRightsCard

/-- THE TIED CARD OF 'weirlaw05.KeyEscapes'. -/
def keyEscapesCard : Claim7 := { stood := { row := keyEscapesRow, standIns := [], harness := (true, "273a4e54b16232aa3f8b09c1608f129dd5105f24c49658d45ff4d91995c72b7a"), looks := true }, kinds := [], alts := [], laidByText := true, laidKinds := [.data, .handle, .pinned], laidTests := true, laidLooks := .later }
def KeyEscapesCardSaid : Prop := Claim7.holds Tryd.pinned (.plain (OpenSpec.ofChange keyEscapesSpec)) keyEscapesCard

/-- THE TIED CARD OF 'weirlaw05.KeyUnescapes'. -/
def keyUnescapesCard : Claim7 := { stood := { row := keyUnescapesRow, standIns := [], harness := (true, "273a4e54b16232aa3f8b09c1608f129dd5105f24c49658d45ff4d91995c72b7a"), looks := true }, kinds := [], alts := [], laidByText := true, laidKinds := [.data, .handle, .pinned], laidTests := true, laidLooks := .later }
def KeyUnescapesCardSaid : Prop := Claim7.holds Tryd.pinned (.plain (OpenSpec.ofChange keyUnescapesSpec)) keyUnescapesCard

/-- THE TIED CARD OF 'weirlaw05.KeyCompares'. -/
def keyComparesCard : Claim7 := { stood := { row := keyComparesRow, standIns := [], harness := (true, "273a4e54b16232aa3f8b09c1608f129dd5105f24c49658d45ff4d91995c72b7a"), looks := true }, kinds := [], alts := [], laidByText := true, laidKinds := [.data, .handle, .pinned], laidTests := true, laidLooks := .later }
def KeyComparesCardSaid : Prop := Claim7.holds Tryd.pinned (.plain (OpenSpec.ofChange keyComparesSpec)) keyComparesCard

/-- THE TIED CARD OF 'weirlaw05.KeyOrder'. -/
def keyOrderCard : Claim7 := { stood := { row := keyOrderRow, standIns := [], harness := (true, "273a4e54b16232aa3f8b09c1608f129dd5105f24c49658d45ff4d91995c72b7a"), looks := true }, kinds := [], alts := [], laidByText := true, laidKinds := [.data, .handle, .pinned], laidTests := true, laidLooks := .later }
def KeyOrderCardSaid : Prop := Claim7.holds Tryd.pinned (.plain (OpenSpec.ofChange keyOrderSpec)) keyOrderCard

/-- THE TIED CARD OF 'weirlaw05.KeyParses'. -/
def keyParsesCard : Claim7 := { stood := { row := keyParsesRow, standIns := [], harness := (true, "273a4e54b16232aa3f8b09c1608f129dd5105f24c49658d45ff4d91995c72b7a"), looks := true }, kinds := [], alts := [], laidByText := true, laidKinds := [.data, .handle, .pinned], laidTests := true, laidLooks := .later }
def KeyParsesCardSaid : Prop := Claim7.holds Tryd.pinned (.plain (OpenSpec.ofChange keyParsesSpec)) keyParsesCard

/-- THE TIED CARD OF 'weirlaw05.KeyBack'. -/
def keyBackCard : Claim7 := { stood := { row := keyBackRow, standIns := [], harness := (true, "273a4e54b16232aa3f8b09c1608f129dd5105f24c49658d45ff4d91995c72b7a"), looks := true }, kinds := [], alts := [], laidByText := true, laidKinds := [.data, .handle, .pinned], laidTests := true, laidLooks := .later }
def KeyBackCardSaid : Prop := Claim7.holds Tryd.pinned (.plain (OpenSpec.ofChange keyBackSpec)) keyBackCard

/-- THE TIED CARD OF 'weirlaw05.KeyTags'. -/
def keyTagsCard : Claim7 := { stood := { row := keyTagsRow, standIns := [], harness := (true, "273a4e54b16232aa3f8b09c1608f129dd5105f24c49658d45ff4d91995c72b7a"), looks := true }, kinds := [], alts := [], laidByText := true, laidKinds := [.data, .handle, .pinned], laidTests := true, laidLooks := .later }
def KeyTagsCardSaid : Prop := Claim7.holds Tryd.pinned (.plain (OpenSpec.ofChange keyTagsSpec)) keyTagsCard

/-- THE TIED CARD OF 'weirlaw05.KeyJoins'. -/
def keyJoinsCard : Claim7 := { stood := { row := keyJoinsRow, standIns := [], harness := (true, "273a4e54b16232aa3f8b09c1608f129dd5105f24c49658d45ff4d91995c72b7a"), looks := true }, kinds := [], alts := [], laidByText := true, laidKinds := [.data, .handle, .pinned], laidTests := true, laidLooks := .later }
def KeyJoinsCardSaid : Prop := Claim7.holds Tryd.pinned (.plain (OpenSpec.ofChange keyJoinsSpec)) keyJoinsCard

/-- THE SECOND FORM's CARD OF 'weirlaw05.KeyPrints'. -/
def keyPrintsUptoCard : Claim7 := { stood := { row := keyPrintsUptoRow, standIns := [], harness := (true, "273a4e54b16232aa3f8b09c1608f129dd5105f24c49658d45ff4d91995c72b7a"), looks := true }, kinds := [], alts := [], laidByText := true, laidKinds := [.data, .handle, .pinned], laidTests := true, laidLooks := .later }
def KeyPrintsUptoCardSaid : Prop := Claim7.holds Tryd.pinned (.plain (OpenSpec.upto keyPrintsSpec)) keyPrintsUptoCard

/-- THE SECOND FORM's CARD OF 'weirlaw05.KeyRights'. -/
def keyRightsUptoCard : Claim7 := { stood := { row := keyRightsUptoRow, standIns := [], harness := (true, "273a4e54b16232aa3f8b09c1608f129dd5105f24c49658d45ff4d91995c72b7a"), looks := true }, kinds := [], alts := [], laidByText := true, laidKinds := [.data, .handle, .pinned], laidTests := true, laidLooks := .later }
def KeyRightsUptoCardSaid : Prop := Claim7.holds Tryd.pinned (.plain (OpenSpec.upto keyRightsSpec)) keyRightsUptoCard

/-- THE SECOND FORM's CARD OF 'weirlaw05.KeyEscapes'. -/
def keyEscapesUptoCard : Claim7 := { stood := { row := keyEscapesUptoRow, standIns := [], harness := (true, "273a4e54b16232aa3f8b09c1608f129dd5105f24c49658d45ff4d91995c72b7a"), looks := true }, kinds := [], alts := [], laidByText := true, laidKinds := [.data, .handle, .pinned], laidTests := true, laidLooks := .later }
def KeyEscapesUptoCardSaid : Prop := Claim7.holds Tryd.pinned (.plain (OpenSpec.upto keyEscapesSpec)) keyEscapesUptoCard

/-- THE SECOND FORM's CARD OF 'weirlaw05.KeyUnescapes'. -/
def keyUnescapesUptoCard : Claim7 := { stood := { row := keyUnescapesUptoRow, standIns := [], harness := (true, "273a4e54b16232aa3f8b09c1608f129dd5105f24c49658d45ff4d91995c72b7a"), looks := true }, kinds := [], alts := [], laidByText := true, laidKinds := [.data, .handle, .pinned], laidTests := true, laidLooks := .later }
def KeyUnescapesUptoCardSaid : Prop := Claim7.holds Tryd.pinned (.plain (OpenSpec.upto keyUnescapesSpec)) keyUnescapesUptoCard

/-- THE SECOND FORM's CARD OF 'weirlaw05.KeyCompares'. -/
def keyComparesUptoCard : Claim7 := { stood := { row := keyComparesUptoRow, standIns := [], harness := (true, "273a4e54b16232aa3f8b09c1608f129dd5105f24c49658d45ff4d91995c72b7a"), looks := true }, kinds := [], alts := [], laidByText := true, laidKinds := [.data, .handle, .pinned], laidTests := true, laidLooks := .later }
def KeyComparesUptoCardSaid : Prop := Claim7.holds Tryd.pinned (.plain (OpenSpec.upto keyComparesSpec)) keyComparesUptoCard

/-- THE SECOND FORM's CARD OF 'weirlaw05.KeyOrder'. -/
def keyOrderUptoCard : Claim7 := { stood := { row := keyOrderUptoRow, standIns := [], harness := (true, "273a4e54b16232aa3f8b09c1608f129dd5105f24c49658d45ff4d91995c72b7a"), looks := true }, kinds := [], alts := [], laidByText := true, laidKinds := [.data, .handle, .pinned], laidTests := true, laidLooks := .later }
def KeyOrderUptoCardSaid : Prop := Claim7.holds Tryd.pinned (.plain (OpenSpec.upto keyOrderSpec)) keyOrderUptoCard

/-- THE SECOND FORM's CARD OF 'weirlaw05.KeyParses'. -/
def keyParsesUptoCard : Claim7 := { stood := { row := keyParsesUptoRow, standIns := [], harness := (true, "273a4e54b16232aa3f8b09c1608f129dd5105f24c49658d45ff4d91995c72b7a"), looks := true }, kinds := [], alts := [], laidByText := true, laidKinds := [.data, .handle, .pinned], laidTests := true, laidLooks := .later }
def KeyParsesUptoCardSaid : Prop := Claim7.holds Tryd.pinned (.plain (OpenSpec.upto keyParsesSpec)) keyParsesUptoCard

/-- THE SECOND FORM's CARD OF 'weirlaw05.KeyBack'. -/
def keyBackUptoCard : Claim7 := { stood := { row := keyBackUptoRow, standIns := [], harness := (true, "273a4e54b16232aa3f8b09c1608f129dd5105f24c49658d45ff4d91995c72b7a"), looks := true }, kinds := [], alts := [], laidByText := true, laidKinds := [.data, .handle, .pinned], laidTests := true, laidLooks := .later }
def KeyBackUptoCardSaid : Prop := Claim7.holds Tryd.pinned (.plain (OpenSpec.upto keyBackSpec)) keyBackUptoCard

/-- THE SECOND FORM's CARD OF 'weirlaw05.KeyTags'. -/
def keyTagsUptoCard : Claim7 := { stood := { row := keyTagsUptoRow, standIns := [], harness := (true, "273a4e54b16232aa3f8b09c1608f129dd5105f24c49658d45ff4d91995c72b7a"), looks := true }, kinds := [], alts := [], laidByText := true, laidKinds := [.data, .handle, .pinned], laidTests := true, laidLooks := .later }
def KeyTagsUptoCardSaid : Prop := Claim7.holds Tryd.pinned (.plain (OpenSpec.upto keyTagsSpec)) keyTagsUptoCard

/-- THE SECOND FORM's CARD OF 'weirlaw05.KeyJoins'. -/
def keyJoinsUptoCard : Claim7 := { stood := { row := keyJoinsUptoRow, standIns := [], harness := (true, "273a4e54b16232aa3f8b09c1608f129dd5105f24c49658d45ff4d91995c72b7a"), looks := true }, kinds := [], alts := [], laidByText := true, laidKinds := [.data, .handle, .pinned], laidTests := true, laidLooks := .later }
def KeyJoinsUptoCardSaid : Prop := Claim7.holds Tryd.pinned (.plain (OpenSpec.upto keyJoinsSpec)) keyJoinsUptoCard
end Rows
end Go.Proofs.YtnpagnghnohmdaaDoor
