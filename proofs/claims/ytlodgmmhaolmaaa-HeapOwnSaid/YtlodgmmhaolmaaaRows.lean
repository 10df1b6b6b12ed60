/-
  No cell of these rows narrows 'for every input' (looked for: loops, veiled, ifaces, maps, wideKeys, modest, calm, conditions, laid).
  DERIVED. THE GIVEN ROWS OF THIS SEAT. 4 by the template 'for every input the law returns true; each argument reads behind the call as it read before'; 0 by the template 'total and deterministic' (their statements: YtlodgmmhaolmaaaTotals.lean).
  GIVEN WITH THE SEED: the statements are not yours to turn. If you find one false, say at which input.
  Laid BY PROGRAM, IN A SANDBOX (cutbox-rows.mjs): the forced cells as the released guide's own fill.sh prints them over the translation 4d55a02142130663… (all of the seat's roots in one cut). By AI agents, Wed Nov 11 2026. No macro, syntax, notation, axiom, sorry.
-/
import Derived.Test.YtlodgmmhaolmaaaChecked
import GoSem.Claim
import GoSem.ClaimJoined
import GoSem.ClaimMapViews
import Derived.JoinedTies
import Derived.KernelRfl
namespace Go.Proofs.Ytlodgmmhaolmaaa
/- THE CELL 'sum', in the pinned program and in every row, IS THE sha256 OF THE DUMP (.gsa) THAT YtlodgmmhaolmaaaProg.lean LOADS. Nothing in Lean hashes anything: it is a label: what it is worth is what the hold of that sum in a sandbox is worth. -/
noncomputable def Try.pinned : Pinned := { name := "ytlodgmmhaolmaaa", sum := "4d55a021421306632a5428d92929beaf5f8f192bb128c6c0f877d76421fbe45e", checked := Try.checked }
namespace Rows
def none {H : Type} : Left H := { results := [], args := [] }

/-- 'weirlaw21.HeapMoves': WHATEVER THE INPUT: true; the input reads as it did. -/
def heapMovesSpec : ChangeSpec := { name := "heapMoves", fn := fun _ => fun
  | [d1, d2] => { results := [.lit (.bool true)], args := [d1, d2] }
  | _ => none }
def heapMovesRow : OpenClaim := { program := "ytlodgmmhaolmaaa", sum := "4d55a021421306632a5428d92929beaf5f8f192bb128c6c0f877d76421fbe45e", func := "weir/weirlaw21.HeapMoves", spec := "heapMoves", unfollowed := true, recurses := true, apart := false }
def HeapMovesSaid : Prop := heapMovesRow.holds Try.pinned (OpenSpec.ofChange heapMovesSpec)

/-- ITS FALSE NEIGHBOUR: 'it returns false'. Refute it at one input. -/
def heapMovesWrong : ChangeSpec := { name := "heapMoves", fn := fun _ => fun
  | [d1, d2] => { results := [.lit (.bool false)], args := [d1, d2] }
  | _ => none }
def HeapMovesWrongFalsely : Prop := heapMovesRow.holds Try.pinned (OpenSpec.ofChange heapMovesWrong)

/-- 'weirlaw21.HeapHolds': WHATEVER THE INPUT: true; the input reads as it did. -/
def heapHoldsSpec : ChangeSpec := { name := "heapHolds", fn := fun _ => fun
  | [d1, d2] => { results := [.lit (.bool true)], args := [d1, d2] }
  | _ => none }
def heapHoldsRow : OpenClaim := { program := "ytlodgmmhaolmaaa", sum := "4d55a021421306632a5428d92929beaf5f8f192bb128c6c0f877d76421fbe45e", func := "weir/weirlaw21.HeapHolds", spec := "heapHolds", unfollowed := true, recurses := true, apart := false }
def HeapHoldsSaid : Prop := heapHoldsRow.holds Try.pinned (OpenSpec.ofChange heapHoldsSpec)

/-- ITS FALSE NEIGHBOUR: 'it returns false'. Refute it at one input. -/
def heapHoldsWrong : ChangeSpec := { name := "heapHolds", fn := fun _ => fun
  | [d1, d2] => { results := [.lit (.bool false)], args := [d1, d2] }
  | _ => none }
def HeapHoldsWrongFalsely : Prop := heapHoldsRow.holds Try.pinned (OpenSpec.ofChange heapHoldsWrong)

/-- 'weirlaw21.HeapOwn': WHATEVER THE INPUT: true; the input reads as it did. -/
def heapOwnSpec : ChangeSpec := { name := "heapOwn", fn := fun _ => fun
  | [d1, d2] => { results := [.lit (.bool true)], args := [d1, d2] }
  | _ => none }
def heapOwnRow : OpenClaim := { program := "ytlodgmmhaolmaaa", sum := "4d55a021421306632a5428d92929beaf5f8f192bb128c6c0f877d76421fbe45e", func := "weir/weirlaw21.HeapOwn", spec := "heapOwn", inPlace := ["maps.clone"], unfollowed := true, recurses := true, apart := false }
def HeapOwnSaid : Prop := heapOwnRow.holds Try.pinned (OpenSpec.ofChange heapOwnSpec)

/-- ITS FALSE NEIGHBOUR: 'it returns false'. Refute it at one input. -/
def heapOwnWrong : ChangeSpec := { name := "heapOwn", fn := fun _ => fun
  | [d1, d2] => { results := [.lit (.bool false)], args := [d1, d2] }
  | _ => none }
def HeapOwnWrongFalsely : Prop := heapOwnRow.holds Try.pinned (OpenSpec.ofChange heapOwnWrong)

/-- 'weirtop.TopHeaps': WHATEVER THE INPUT: true; the input reads as it did. -/
def topHeapsSpec : ChangeSpec := { name := "topHeaps", fn := fun _ => fun
  | [d1, d2] => { results := [.lit (.bool true)], args := [d1, d2] }
  | _ => none }
def topHeapsRow : OpenClaim := { program := "ytlodgmmhaolmaaa", sum := "4d55a021421306632a5428d92929beaf5f8f192bb128c6c0f877d76421fbe45e", func := "weir/weirtop.TopHeaps", spec := "topHeaps", unfollowed := true, recurses := true, apart := false }
def TopHeapsSaid : Prop := topHeapsRow.holds Try.pinned (OpenSpec.ofChange topHeapsSpec)

/-- ITS FALSE NEIGHBOUR: 'it returns false'. Refute it at one input. -/
def topHeapsWrong : ChangeSpec := { name := "topHeaps", fn := fun _ => fun
  | [d1, d2] => { results := [.lit (.bool false)], args := [d1, d2] }
  | _ => none }
def TopHeapsWrongFalsely : Prop := topHeapsRow.holds Try.pinned (OpenSpec.ofChange topHeapsWrong)

/- THE SECOND FORM. 'bulk': how many values and letters a reading holds, each counted each time it is reached (what is shared counts as often as it is met; a slice's spare places count too). A statement '..UptoSaid' is the law's where the arguments, and the package variables that the reading takes, are together of bulk at most 1048576: NARROWER than '..Said'. Prove '..Said' where nothing that the law and all that it calls make is longer than what came in: it says more and counts as full. Else prove '..UptoSaid'. A law counts once. -/
mutual
def uptoBulk {H : Type} : DataW H → Nat
  | .lit (.string bytes) => bytes.length + 1
  | .lit _ => 1
  | .nil => 1
  | .ptr d => uptoBulk d + 1
  | .slice elems spare => uptoBulkAll elems + uptoBulkAll spare + 1
  | .agg parts => uptoBulkAll parts + 1
  | .iface _ d => uptoBulk d + 1
  | .map entries => uptoBulkEntries entries + 1
  | .held _ => 1
def uptoBulkAll {H : Type} : List (DataW H) → Nat
  | [] => 0
  | d :: r => uptoBulk d + uptoBulkAll r
def uptoBulkEntries {H : Type} : List (Lit × DataW H) → Nat
  | [] => 0
  | x :: r => uptoBulkEntry x + uptoBulkEntries r
def uptoBulkEntry {H : Type} : Lit × DataW H → Nat
  | (.string bytes, d) => bytes.length + uptoBulk d + 1
  | (_, d) => uptoBulk d + 1
 end
def uptoSmall : (H : Type) → List (DataW H) → Bool := fun _ ds => decide (uptoBulkAll ds ≤ 1048576)
def OpenSpec.upto (s : _root_.Go.ChangeSpec) : _root_.Go.OpenSpec := { _root_.Go.OpenSpec.ofChange s with cond := some uptoSmall }

/-- 'weirlaw21.HeapMoves', WHERE WHAT IT READS IS OF BULK AT MOST 1048576: true; the input reads as it did. -/
def heapMovesUptoRow : OpenClaim := { program := "ytlodgmmhaolmaaa", sum := "4d55a021421306632a5428d92929beaf5f8f192bb128c6c0f877d76421fbe45e", func := "weir/weirlaw21.HeapMoves", spec := "heapMoves", unfollowed := true, recurses := true, apart := false, narrowed := true }
def HeapMovesUptoSaid : Prop := heapMovesUptoRow.holds Try.pinned (OpenSpec.upto heapMovesSpec)

/-- 'weirlaw21.HeapHolds', WHERE WHAT IT READS IS OF BULK AT MOST 1048576: true; the input reads as it did. -/
def heapHoldsUptoRow : OpenClaim := { program := "ytlodgmmhaolmaaa", sum := "4d55a021421306632a5428d92929beaf5f8f192bb128c6c0f877d76421fbe45e", func := "weir/weirlaw21.HeapHolds", spec := "heapHolds", unfollowed := true, recurses := true, apart := false, narrowed := true }
def HeapHoldsUptoSaid : Prop := heapHoldsUptoRow.holds Try.pinned (OpenSpec.upto heapHoldsSpec)

/-- 'weirlaw21.HeapOwn', WHERE WHAT IT READS IS OF BULK AT MOST 1048576: true; the input reads as it did. -/
def heapOwnUptoRow : OpenClaim := { program := "ytlodgmmhaolmaaa", sum := "4d55a021421306632a5428d92929beaf5f8f192bb128c6c0f877d76421fbe45e", func := "weir/weirlaw21.HeapOwn", spec := "heapOwn", inPlace := ["maps.clone"], unfollowed := true, recurses := true, apart := false, narrowed := true }
def HeapOwnUptoSaid : Prop := heapOwnUptoRow.holds Try.pinned (OpenSpec.upto heapOwnSpec)

/-- 'weirtop.TopHeaps', WHERE WHAT IT READS IS OF BULK AT MOST 1048576: true; the input reads as it did. -/
def topHeapsUptoRow : OpenClaim := { program := "ytlodgmmhaolmaaa", sum := "4d55a021421306632a5428d92929beaf5f8f192bb128c6c0f877d76421fbe45e", func := "weir/weirtop.TopHeaps", spec := "topHeaps", unfollowed := true, recurses := true, apart := false, narrowed := true }
def TopHeapsUptoSaid : Prop := topHeapsUptoRow.holds Try.pinned (OpenSpec.upto topHeapsSpec)

end Rows
end Go.Proofs.Ytlodgmmhaolmaaa
