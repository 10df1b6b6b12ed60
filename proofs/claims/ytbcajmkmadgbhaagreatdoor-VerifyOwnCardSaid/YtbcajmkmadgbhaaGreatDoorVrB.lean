/- Verify: a program in memory: its rows, by lists. -/
import Derived.Test.YtbcajmkmadgbhaaGreatDoorVrA
import Derived.Test.YtbcajmkmadgbhaaGreatDoorBas
set_option linter.unusedVariables false
namespace Go.Proofs.YtbcajmkmadgbhaaGreatDoor
open Go.RowKit
/-- a row of cells, k for each of a list -/
structure RowL {α : Type} (k : Nat) (enc : α → List Value) (w : World) (A : Option Addr) (l : List α) : Prop where
  row : 0 < l.length → ∃ b off, A = some ⟨b, off, none⟩ ∧ ∀ i x, l[i]? = some x → ∀ j v, (enc x)[j]? = some v → w.cell? ⟨b, off + i * k + j, none⟩ = some v
  n : l.length ≤ 9223372036854775807
theorem RowL.below {α : Type} {k : Nat} {enc : α → List Value} {w w' : World} {A : Option Addr} {l : List α} (h : RowL k enc w A l) (hb : Below w.heap.size w w') : RowL k enc w' A l where
  row := fun hn => by
    obtain ⟨b, off, e, hr⟩ := h.row hn
    exact ⟨b, off, e, fun i x hx j v hj => by rw [hb.cell (cell_lt (hr i x hx j v hj))]; exact hr i x hx j v hj⟩
  n := h.n
theorem RowL.nil {α : Type} {k : Nat} {enc : α → List Value} {w : World} {A : Option Addr} : RowL k enc w A ([] : List α) where
  row := fun h => absurd h (by simp)
  n := by simp
abbrev TxtL := RowL 1 (fun s : List UInt8 => [strV s])
abbrev I64L := RowL 1 (fun z : Int => [Value.int .i64 z])
abbrev AccL := RowL 2 (fun a : Nat × List UInt8 => [Value.int .u8 (a.1 : Int), strV a.2])
abbrev InsL := RowL 3 (fun i : InsD => [Value.int .u8 (i.c : Int), .int .i64 i.a, .int .i64 i.b])
theorem row_one {α : Type} {f : α → Value} {w : World} {A : Option Addr} {l : List α} (h : RowL 1 (fun x => [f x]) w A l) (hn : 0 < l.length) : ∃ b off, A = some ⟨b, off, none⟩ ∧ ∀ i x, l[i]? = some x → w.cell? ⟨b, off + i, none⟩ = some (f x) := by
  obtain ⟨b, off, e, hr⟩ := h.row hn
  refine ⟨b, off, e, fun i x hx => ?_⟩
  have := hr i x hx 0 _ rfl
  simpa using this
/-- where a program's rows lie, and what room they have -/
structure PLoc where
  ag : Option Addr
  cg : Nat
  ac : Option Addr
  cc : Nat
  al : Option Addr
  cl : Nat
  an : Option Addr
  cn : Nat
  at_ : Option Addr
  ct : Nat
  ai : Option Addr
  ci : Nat
  am : Option Addr
  cm : Nat
  az : Option Addr
  cz : Nat
  af : Option Addr
  cf : Nat
  ao : Option Addr
  co : Nat
  la : Nat → Option Addr
  lc : Nat → Nat
/-- a program's cells -/
abbrev prgC (D : PrgD) (L : PLoc) : Array Value := #[strV D.from_, strV D.into, .int .i64 D.every, .int .i64 D.offset, .slice L.ag D.groups.length L.cg, .slice L.ac D.accs.length L.cc, .slice L.al D.aliases.length L.cl, .slice L.an D.names.length L.cn,
  .slice L.at_ D.texts.length L.ct, .slice L.ai D.lists.length L.ci, .slice L.am D.times.length L.cm, .slice L.az D.ints.length L.cz, .slice L.af D.filter.length L.cf, .slice L.ao D.output.length L.co]
def i64B (z : Int) : Prop := -9223372036854775808 ≤ z ∧ z ≤ 9223372036854775807
structure InsB (i : InsD) : Prop where
  c : i.c < 256
  a : i64B i.a
  b : i64B i.b
def TxtsB (l : List (List UInt8)) : Prop := ∀ s ∈ l, s.length ≤ 9223372036854775807
/-- a program's data, within bounds -/
structure PrgB (D : PrgD) : Prop where
  from_ : D.from_.length ≤ 9223372036854775807
  into : D.into.length ≤ 9223372036854775807
  every : i64B D.every
  offset : i64B D.offset
  groups : TxtsB D.groups
  accs : ∀ a ∈ D.accs, a.1 < 256 ∧ a.2.length ≤ 9223372036854775807
  aliases : TxtsB D.aliases
  names : TxtsB D.names
  texts : TxtsB D.texts
  lists : ∀ l ∈ D.lists, TxtsB l
  filter : ∀ i ∈ D.filter, InsB i
  output : ∀ i ∈ D.output, InsB i
/-- a program's rows in memory -/
structure PrgM (w : World) (D : PrgD) (L : PLoc) : Prop where
  groups : TxtL w L.ag D.groups
  accs : AccL w L.ac D.accs
  aliases : TxtL w L.al D.aliases
  names : TxtL w L.an D.names
  texts : TxtL w L.at_ D.texts
  lists : 0 < D.lists.length → ∃ b off, L.ai = some ⟨b, off, none⟩ ∧ ∀ i l, D.lists[i]? = some l → w.cell? ⟨b, off + i, none⟩ = some (.slice (L.la i) l.length (L.lc i)) ∧ TxtL w (L.la i) l
  nl : D.lists.length ≤ 9223372036854775807
  times : I64L w L.am D.times
  ints : I64L w L.az D.ints
  filter : InsL w L.af D.filter
  output : InsL w L.ao D.output
theorem PrgM.below {w w' : World} {D : PrgD} {L : PLoc} (h : PrgM w D L) (hb : Below w.heap.size w w') : PrgM w' D L where
  groups := h.groups.below hb
  accs := h.accs.below hb
  aliases := h.aliases.below hb
  names := h.names.below hb
  texts := h.texts.below hb
  lists := fun hn => by
    obtain ⟨b, off, e, hr⟩ := h.lists hn
    exact ⟨b, off, e, fun i l hl => ⟨by rw [hb.cell (cell_lt (hr i l hl).1)]; exact (hr i l hl).1, (hr i l hl).2.below hb⟩⟩
  nl := h.nl
  times := h.times.below hb
  ints := h.ints.below hb
  filter := h.filter.below hb
  output := h.output.below hb
/-- a program as a value -/
abbrev prgV (D : PrgD) (L : PLoc) : Value := .agg (prgC D L)
/-- a program's box -/
structure PBox (w : World) (B : Nat) (D : PrgD) (L : PLoc) : Prop where
  blk : ∃ T, w.heap[B]? = some (.cells (prgC D L) T (0, 0))
theorem PBox.alloc (w : World) (D : PrgD) (L : PLoc) (T : TypeId) : PBox (w.alloc (.cells (prgC D L) T)) w.heap.size D L := ⟨⟨T, heap_alloc_new w _⟩⟩
theorem PBox.lt {w : World} {B : Nat} {D : PrgD} {L : PLoc} (h : PBox w B D L) : B < w.heap.size := by
  obtain ⟨T, h⟩ := h.blk
  exact block_lt h
theorem PBox.below {w w' : World} {B : Nat} {D : PrgD} {L : PLoc} (h : PBox w B D L) (hb : Below w.heap.size w w') : PBox w' B D L := by
  obtain ⟨T, h0⟩ := h.blk
  exact ⟨⟨T, by rw [hb.block B h.lt]; exact h0⟩⟩
theorem PBox.belowAt {w w' : World} {B : Nat} {D : PrgD} {L : PLoc} (h : PBox w B D L) (S : Nat) (hS : B < S) (hb : Below S w w') : PBox w' B D L := by
  obtain ⟨T, h0⟩ := h.blk
  exact ⟨⟨T, by rw [hb.block B hS]; exact h0⟩⟩
theorem PBox.cell {w : World} {B : Nat} {D : PrgD} {L : PLoc} (h : PBox w B D L) (i : Nat) (v : Value) (hi : (prgC D L)[i]? = some v) : w.cell? ⟨B, i, none⟩ = some v := by
  obtain ⟨T, h0⟩ := h.blk
  exact cells_at h0 i v hi
theorem PBox.free {w : World} {B : Nat} {D : PrgD} {L : PLoc} (h : PBox w B D L) (i : Nat) : w.frozen? ⟨B, i, none⟩ = false := by
  obtain ⟨T, h0⟩ := h.blk
  exact cells_free h0 i
end Go.Proofs.YtbcajmkmadgbhaaGreatDoor
