/- Small words for all texts: a fact put away, texts as values, worlds that turned in some blocks alone. -/
import Derived.Test.YtbaopcpmmdmomaaGreatDoorSame
import Derived.Lib.QuietBelow
import Derived.Laws.OwnMore
import Derived.WalkSpells
import Derived.Test.YtbaopcpmmdmomaaGreatDoorKeyA
set_option linter.unusedSimpArgs false
set_option linter.unusedVariables false
namespace Go.Proofs.YtbaopcpmmdmomaaGreatDoor
open Go.RowKit
/-- w' is w but for the blocks of S and new ones -/
structure Turned (S : List Nat) (w w' : World) : Prop where
  os : w'.os = w.os
  tape : w'.tape = w.tape
  output : w'.output = w.output
  size : w.heap.size ≤ w'.heap.size
  block : ∀ k, k < w.heap.size → k ∉ S → w'.heap[k]? = w.heap[k]?
theorem Turned.refl (S : List Nat) (w : World) : Turned S w w := ⟨rfl, rfl, rfl, Nat.le_refl _, fun _ _ _ => rfl⟩
theorem Turned.trans {S : List Nat} {a b c : World} (h : Turned S a b) (k : Turned S b c) : Turned S a c :=
  ⟨k.os.trans h.os, k.tape.trans h.tape, k.output.trans h.output, Nat.le_trans h.size k.size, fun i hi hn => (k.block i (Nat.lt_of_lt_of_le hi h.size) hn).trans (h.block i hi hn)⟩
/-- the second part's blocks are old ones or new ones -/
theorem Turned.step {S T : List Nat} {a b c : World} (h : Turned S a b) (k : Turned T b c) (hT : ∀ x ∈ T, x ∈ S ∨ a.heap.size ≤ x) : Turned S a c :=
  ⟨k.os.trans h.os, k.tape.trans h.tape, k.output.trans h.output, Nat.le_trans h.size k.size, fun i hi hn => (k.block i (Nat.lt_of_lt_of_le hi h.size) (fun e => by rcases hT i e with h' | h'; exact hn h'; omega)).trans (h.block i hi hn)⟩
theorem Turned.more {S T : List Nat} {a b : World} (h : Turned S a b) (hT : ∀ x ∈ S, x ∈ T) : Turned T a b := ⟨h.os, h.tape, h.output, h.size, fun i hi hn => h.block i hi (fun e => hn (hT i e))⟩
theorem Turned.ofBelow {S : List Nat} {w w' : World} (h : Below w.heap.size w w') : Turned S w w' := ⟨h.os, h.tape, h.output, h.size, fun i hi _ => h.block i hi⟩
theorem Turned.ofGrown {S : List Nat} {w w' : World} {row : Option Nat} (h : w.grownBy w' row) (hr : ∀ g, row = some g → g ∈ S) : Turned S w w' := ⟨h.os, h.tape, h.output, h.size, fun i hi hn => h.block i hi (fun e => hn (hr i e.symm))⟩
theorem Turned.below {S : List Nat} {B : Nat} {w w' : World} (h : Turned S w w') (hS : ∀ x ∈ S, B ≤ x) (hB : B ≤ w.heap.size) : Below B w w' := ⟨h.os, h.tape, h.output, h.size, fun k hk => h.block k (by omega) (fun e => by have := hS k e; omega)⟩
theorem Turned.set {w : World} (g i : Nat) (u : Value) : Turned [g] w (w.setCell ⟨g, i, none⟩ u) := Turned.ofGrown (grown_setCell (grown_refl _ _) rfl _) (fun x e => by injection e with e; subst e; simp)
theorem Turned.drew {S : List Nat} {w w' : World} (h : Turned S w w') : Turned S w w'.drew := ⟨h.os, h.tape, h.output, h.size, h.block⟩
theorem Turned.cell {S : List Nat} {w w' : World} {a : Addr} {v : Value} (h : Turned S w w') (hc : w.cell? a = some v) (hn : a.block ∉ S) : w'.cell? a = some v := by
  rw [← hc]; exact World.cell?_of_block (h.block _ (cell_lt hc) hn)
theorem below_of_size {B : Nat} {w w' : World} (h : Below w.heap.size w w') (hB : B ≤ w.heap.size) : Below B w w' := h.mono hB
/-- a block of cells: what a cell holds, that it may be written, what the block is behind a store -/
theorem cells_at {w : World} {b : Nat} {cs : Array Value} {T : TypeId} (h : w.heap[b]? = some (.cells cs T (0, 0))) (i : Nat) (v : Value) (hv : cs[i]? = some v) : w.cell? ⟨b, i, none⟩ = some v := by
  rw [cell_of_row w b i cs T (0, 0) h]; exact hv
theorem cells_free {w : World} {b : Nat} {cs : Array Value} {T : TypeId} (h : w.heap[b]? = some (.cells cs T (0, 0))) (i : Nat) : w.frozen? ⟨b, i, none⟩ = false := frozen_of_row w b i cs T h
theorem cells_set {w : World} {b : Nat} {cs : Array Value} {T : TypeId} (h : w.heap[b]? = some (.cells cs T (0, 0))) (i : Nat) (u : Value) : (w.setCell ⟨b, i, none⟩ u).heap[b]? = some (.cells (cs.setIfInBounds i u) T (0, 0)) := heap_setCell_same w b i cs T u h
theorem block_lt {w : World} {b : Nat} {o : Obj} (h : w.heap[b]? = some o) : b < w.heap.size := by
  rcases Nat.lt_or_ge b w.heap.size with h' | h'
  · exact h'
  · simp [Array.getElem?_eq_none h'] at h
theorem own_below {w w' : World} {base : Nat} {e : TypeId} {size : Nat} {v : Value} {n : Nat} {xs : List Value} (h : w.ownsRow base e size v n xs) (hb : Below w.heap.size w w') : w'.ownsRow base e size v n xs :=
  h.kept (row := none) ⟨hb.os, hb.tape, hb.output, hb.size, fun i hi _ => hb.block i hi⟩ (by cases v.ownBlock <;> simp)
/-- how large a set of keys is -/
theorem keys_le {α β : Type} {l : List (α × β)} {ks : List α} (hd : l.Pairwise (fun p q => p.1 ≠ q.1)) (h : ∀ p ∈ l, p.1 ∈ ks) : l.length ≤ ks.length := by
  rw [← List.length_map (f := Prod.fst)]
  refine List.Nodup.length_le_of_subset ?_ (fun x hx => ?_)
  · unfold List.Nodup; rw [List.pairwise_map]; exact hd
  · obtain ⟨p, hp, rfl⟩ := List.mem_map.1 hx
    exact h p hp
end Go.Proofs.YtbaopcpmmdmomaaGreatDoor
