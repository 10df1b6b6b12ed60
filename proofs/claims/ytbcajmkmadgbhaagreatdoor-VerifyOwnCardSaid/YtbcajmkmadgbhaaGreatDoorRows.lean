/-
  NARROWER THAN 'FOR EVERY INPUT', by the rows' own cells (each row's printed sentence says how): VerifyOwn: laid · VerifyHeights: laid.
  DERIVED. THE GIVEN ROWS OF THIS SEAT. 2 by the template 'for every input the law returns true; each argument reads behind the call as it read before'; 0 by the template 'total and deterministic' (their statements: YtbcajmkmadgbhaaGreatDoorTotals.lean).
  GIVEN WITH THE SEED: the statements are not yours to turn. If you find one false, say at which input.
  Laid BY PROGRAM, IN A SANDBOX (cutbox-rows.mjs): the forced cells as the released guide's own fill.sh prints them over the translation 1b03f9a813a1e044… (all of the seat's roots in one cut). By AI agents, Wed Nov 11 2026. No macro, syntax, notation, axiom, sorry.
-/
import Derived.Test.YtbcajmkmadgbhaaGreatDoorChecked
import GoSem.PinnedTables
import GoSem.Claim
import GoSem.ClaimJoined
import GoSem.ClaimMapViews
import Derived.JoinedTies
import Derived.KernelRfl
namespace Go.Proofs.YtbcajmkmadgbhaaGreatDoor
/- THE CELL 'sum', in the pinned program and in every row, IS THE sha256 OF THE DUMP (.gsa) THAT YtbcajmkmadgbhaaGreatDoorProg.lean LOADS. Nothing in Lean hashes anything: it is a label: what it is worth is what the hold of that sum in a sandbox is worth. -/
noncomputable def Tryz.pinned : Pinned := { name := "ytbcajmkmadgbhaagreatdoor", sum := "1b03f9a813a1e044f761a9b9f9c7bba760389ca479669e5e0b18410fd2de0e59", checked := Tryz.checked }
namespace Rows
def none {H : Type} : Left H := { results := [], args := [] }

/- WHAT THE LISTED PACKAGE-LEVEL VARIABLES READ AS WHEN THE CALL BEGINS. Each datum BY PROGRAM (the guide's laid-datum.mjs) off the statement by which the dump's own 'gosem.cut.vars' lays the variable. In a bare row this is a premise. The card (YtbcajmkmadgbhaaGreatDoorCards.lean) ties it to the program's text. -/
def laid_unicode_utf8_acceptRanges {H : Type} : DataW H := .agg [.agg [.lit (.int .u8 128), .lit (.int .u8 191)], .agg [.lit (.int .u8 160), .lit (.int .u8 191)], .agg [.lit (.int .u8 128), .lit (.int .u8 159)], .agg [.lit (.int .u8 144), .lit (.int .u8 191)], .agg [.lit (.int .u8 128), .lit (.int .u8 143)], .agg [.lit (.int .u8 0), .lit (.int .u8 0)], .agg [.lit (.int .u8 0), .lit (.int .u8 0)], .agg [.lit (.int .u8 0), .lit (.int .u8 0)], .agg [.lit (.int .u8 0), .lit (.int .u8 0)], .agg [.lit (.int .u8 0), .lit (.int .u8 0)], .agg [.lit (.int .u8 0), .lit (.int .u8 0)], .agg [.lit (.int .u8 0), .lit (.int .u8 0)], .agg [.lit (.int .u8 0), .lit (.int .u8 0)], .agg [.lit (.int .u8 0), .lit (.int .u8 0)], .agg [.lit (.int .u8 0), .lit (.int .u8 0)], .agg [.lit (.int .u8 0), .lit (.int .u8 0)]]
def laid_errors_errorType {H : Type} : DataW H := .iface "internal/reflectlite.rtype" (.agg [.ptr (.lit (.string [101, 114, 114, 111, 114]))])
def laid_weir_code_table {H : Type} : DataW H := .agg [.agg [.lit (.string []), .lit (.int .i64 0)], .agg [.lit (.string [112, 117, 115, 104, 116, 114, 117, 101]), .lit (.int .i64 0)], .agg [.lit (.string [112, 117, 115, 104, 102, 97, 108, 115, 101]), .lit (.int .i64 0)], .agg [.lit (.string [112, 117, 115, 104, 116, 97, 103]), .lit (.int .i64 2)], .agg [.lit (.string [112, 117, 115, 104, 105, 110]), .lit (.int .i64 2)], .agg [.lit (.string [112, 117, 115, 104, 115, 97, 109, 101]), .lit (.int .i64 2)], .agg [.lit (.string [112, 117, 115, 104, 116, 105, 109, 101]), .lit (.int .i64 2)], .agg [.lit (.string [110, 111, 116]), .lit (.int .i64 0)], .agg [.lit (.string [97, 110, 100]), .lit (.int .i64 0)], .agg [.lit (.string [111, 114]), .lit (.int .i64 0)], .agg [.lit (.string [106, 117, 109, 112, 102, 97, 108, 115, 101]), .lit (.int .i64 1)], .agg [.lit (.string [106, 117, 109, 112, 116, 114, 117, 101]), .lit (.int .i64 1)], .agg [.lit (.string [112, 111, 112]), .lit (.int .i64 0)], .agg [.lit (.string [97, 99, 99, 101, 112, 116]), .lit (.int .i64 0)], .agg [.lit (.string [108, 111, 97, 100, 97, 99, 99]), .lit (.int .i64 1)], .agg [.lit (.string [108, 111, 97, 100, 105, 110, 116]), .lit (.int .i64 1)], .agg [.lit (.string [114, 97, 116, 105, 111]), .lit (.int .i64 2)], .agg [.lit (.string [110, 101, 103]), .lit (.int .i64 0)], .agg [.lit (.string [97, 100, 100]), .lit (.int .i64 0)], .agg [.lit (.string [115, 117, 98]), .lit (.int .i64 0)], .agg [.lit (.string [109, 117, 108]), .lit (.int .i64 0)], .agg [.lit (.string [100, 105, 118]), .lit (.int .i64 0)], .agg [.lit (.string [109, 111, 100]), .lit (.int .i64 0)], .agg [.lit (.string [101, 109, 105, 116]), .lit (.int .i64 1)], .agg [.lit (.string [100, 111, 110, 101]), .lit (.int .i64 0)]]
/-- One of Go's own tables, pinned by name: the form's constant. -/
def laid_unicode_utf8_first : DataW Unit := Go.Pinned.utf8First

/-- 'weirlaw19.VerifyOwn': WHATEVER THE INPUT: true; the input reads as it did. -/
def verifyOwnSpec : ChangeSpec := { name := "verifyOwn", fn := fun _ => fun
  | [d] => { results := [.lit (.bool true)], args := [d] }
  | _ => none }
def verifyOwnRow : OpenClaim := { program := "ytbcajmkmadgbhaagreatdoor", sum := "1b03f9a813a1e044f761a9b9f9c7bba760389ca479669e5e0b18410fd2de0e59", func := "weir/weirlaw19.VerifyOwn", spec := "verifyOwn", inPlace := ["internal/reflectlite.ValueOf", "(internal/reflectlite.Value).Type", "(internal/reflectlite.Value).IsNil", "internal/reflectlite.TypeOf", "(internal/reflectlite.Value).Elem", "(internal/reflectlite.Value).Set"], unfollowed := true, recurses := true, named := ["unicode/utf8.first", "unicode/utf8.acceptRanges", "weir/code.table", "errors.errorType"], apart := false, laid := [("unicode/utf8.acceptRanges", laid_unicode_utf8_acceptRanges), ("errors.errorType", laid_errors_errorType), ("weir/code.table", laid_weir_code_table), ("unicode/utf8.first", laid_unicode_utf8_first)] }
def VerifyOwnSaid : Prop := verifyOwnRow.holds Tryz.pinned (OpenSpec.ofChange verifyOwnSpec)

/-- ITS FALSE NEIGHBOUR: 'it returns false'. Refute it at one input. -/
def verifyOwnWrong : ChangeSpec := { name := "verifyOwn", fn := fun _ => fun
  | [d] => { results := [.lit (.bool false)], args := [d] }
  | _ => none }
def VerifyOwnWrongFalsely : Prop := verifyOwnRow.holds Tryz.pinned (OpenSpec.ofChange verifyOwnWrong)

/-- 'weirlaw19.VerifyHeights': WHATEVER THE INPUT: true; the input reads as it did. -/
def verifyHeightsSpec : ChangeSpec := { name := "verifyHeights", fn := fun _ => fun
  | [d] => { results := [.lit (.bool true)], args := [d] }
  | _ => none }
def verifyHeightsRow : OpenClaim := { program := "ytbcajmkmadgbhaagreatdoor", sum := "1b03f9a813a1e044f761a9b9f9c7bba760389ca479669e5e0b18410fd2de0e59", func := "weir/weirlaw19.VerifyHeights", spec := "verifyHeights", inPlace := ["internal/reflectlite.ValueOf", "(internal/reflectlite.Value).Type", "(internal/reflectlite.Value).IsNil", "internal/reflectlite.TypeOf", "(internal/reflectlite.Value).Elem", "(internal/reflectlite.Value).Set"], unfollowed := true, recurses := true, named := ["unicode/utf8.first", "unicode/utf8.acceptRanges", "weir/code.table", "errors.errorType"], apart := false, laid := [("unicode/utf8.acceptRanges", laid_unicode_utf8_acceptRanges), ("errors.errorType", laid_errors_errorType), ("weir/code.table", laid_weir_code_table), ("unicode/utf8.first", laid_unicode_utf8_first)] }
def VerifyHeightsSaid : Prop := verifyHeightsRow.holds Tryz.pinned (OpenSpec.ofChange verifyHeightsSpec)

/-- ITS FALSE NEIGHBOUR: 'it returns false'. Refute it at one input. -/
def verifyHeightsWrong : ChangeSpec := { name := "verifyHeights", fn := fun _ => fun
  | [d] => { results := [.lit (.bool false)], args := [d] }
  | _ => none }
def VerifyHeightsWrongFalsely : Prop := verifyHeightsRow.holds Tryz.pinned (OpenSpec.ofChange verifyHeightsWrong)

/- THE SECOND FORM. 'bulk': how many values and letters a reading holds, each counted each time it is reached (what is shared counts as often as it is met; a slice's spare places count too). A statement '..UptoSaid' is the law's where the arguments, and the package variables that the reading takes, are together of bulk at most 1048576: NARROWER than '..Said'. Prove '..Said' where nothing that the law and all that it calls make is longer than what came in: it says more and counts as full. Else prove '..UptoSaid'. A law counts once. -/
mutual
def uptoBulk {H : Type} : DataW H → Nat
  | .lit (.string bytes) => bytes.length + 1
  | .lit _ => 1
  | .nil => 1
  | .ptr d => uptoBulk d + 1
  | .slice elems spare => uptoBulkAll elems + uptoBulkAll spare + 1
  | .agg parts => uptoBulkAll parts + 1
  | .iface _ d => uptoBulk d + 1
  | .map entries => uptoBulkEntries entries + 1
  | .held _ => 1
def uptoBulkAll {H : Type} : List (DataW H) → Nat
  | [] => 0
  | d :: r => uptoBulk d + uptoBulkAll r
def uptoBulkEntries {H : Type} : List (Lit × DataW H) → Nat
  | [] => 0
  | x :: r => uptoBulkEntry x + uptoBulkEntries r
def uptoBulkEntry {H : Type} : Lit × DataW H → Nat
  | (.string bytes, d) => bytes.length + uptoBulk d + 1
  | (_, d) => uptoBulk d + 1
 end
def uptoSmall : (H : Type) → List (DataW H) → Bool := fun _ ds => decide (uptoBulkAll ds ≤ 1048576)
def OpenSpec.upto (s : _root_.Go.ChangeSpec) : _root_.Go.OpenSpec := { _root_.Go.OpenSpec.ofChange s with cond := some uptoSmall }

/-- 'weirlaw19.VerifyOwn', WHERE WHAT IT READS IS OF BULK AT MOST 1048576: true; the input reads as it did. -/
def verifyOwnUptoRow : OpenClaim := { program := "ytbcajmkmadgbhaagreatdoor", sum := "1b03f9a813a1e044f761a9b9f9c7bba760389ca479669e5e0b18410fd2de0e59", func := "weir/weirlaw19.VerifyOwn", spec := "verifyOwn", inPlace := ["internal/reflectlite.ValueOf", "(internal/reflectlite.Value).Type", "(internal/reflectlite.Value).IsNil", "internal/reflectlite.TypeOf", "(internal/reflectlite.Value).Elem", "(internal/reflectlite.Value).Set"], unfollowed := true, recurses := true, named := ["unicode/utf8.first", "unicode/utf8.acceptRanges", "weir/code.table", "errors.errorType"], apart := false, laid := [("unicode/utf8.acceptRanges", laid_unicode_utf8_acceptRanges), ("errors.errorType", laid_errors_errorType), ("weir/code.table", laid_weir_code_table), ("unicode/utf8.first", laid_unicode_utf8_first)], narrowed := true }
def VerifyOwnUptoSaid : Prop := verifyOwnUptoRow.holds Tryz.pinned (OpenSpec.upto verifyOwnSpec)

/-- 'weirlaw19.VerifyHeights', WHERE WHAT IT READS IS OF BULK AT MOST 1048576: true; the input reads as it did. -/
def verifyHeightsUptoRow : OpenClaim := { program := "ytbcajmkmadgbhaagreatdoor", sum := "1b03f9a813a1e044f761a9b9f9c7bba760389ca479669e5e0b18410fd2de0e59", func := "weir/weirlaw19.VerifyHeights", spec := "verifyHeights", inPlace := ["internal/reflectlite.ValueOf", "(internal/reflectlite.Value).Type", "(internal/reflectlite.Value).IsNil", "internal/reflectlite.TypeOf", "(internal/reflectlite.Value).Elem", "(internal/reflectlite.Value).Set"], unfollowed := true, recurses := true, named := ["unicode/utf8.first", "unicode/utf8.acceptRanges", "weir/code.table", "errors.errorType"], apart := false, laid := [("unicode/utf8.acceptRanges", laid_unicode_utf8_acceptRanges), ("errors.errorType", laid_errors_errorType), ("weir/code.table", laid_weir_code_table), ("unicode/utf8.first", laid_unicode_utf8_first)], narrowed := true }
def VerifyHeightsUptoSaid : Prop := verifyHeightsUptoRow.holds Tryz.pinned (OpenSpec.upto verifyHeightsSpec)

end Rows
end Go.Proofs.YtbcajmkmadgbhaaGreatDoor
