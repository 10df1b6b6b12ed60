/- weirboth.Is and weirboth.Same at a nil error and at an error of a number. Condition: errors.errorType holds the handle of the type error. -/
import Derived.Test.YtbaopcpmmdmomaaGreatDoorAs
import Derived.Deep.RegionHeld3
import Derived.Deep.QuietTactic
import Derived.BigQuiet
set_option linter.unusedSimpArgs false
set_option linter.unusedVariables false
namespace Go.Proofs.YtbaopcpmmdmomaaGreatDoor
open Go.RowKit

/-- an error of a number -/
abbrev errV (c : Int) : Value := .iface 87 (.int .i64 c)
/-- the document's error of a number -/
abbrev badV (c : Int) : Value := .agg #[.int .i64 c, .int .i64 0, .int .i64 0, .bool false, .bool false]

theorem as_EE (c : Int) (t : Addr) (old : Value) (w : World) (hG : Glob w) (ht0 : w.cell? t = some old) (hf0 : w.frozen? t = false) :
    Calls Tryz.prog 67 #[errV c, .iface 104 (.pointer (some t))] w fun ev w' => ev = .returned (.bool true) ∧ w'.cell? t = some (.int .i64 c) ∧ w.grownBy w' (some t.block) := by
  refine (as_EE_x c t old w hG ht0 hf0).mono ?_
  rintro e w' ⟨rfl, rfl⟩
  have htl := cell_lt ht0
  refine ⟨rfl, ?_, grown_setCell (grown_alloc (grown_alloc (grown_alloc (grown_alloc (grown_refl _ _) _) _) _) _) rfl _⟩
  have h4 : ((((w.alloc (.cells #[.pointer (some t)] 104)).alloc (.cells #[.pointer (some ⟨3, 104, none⟩), .pointer (some ⟨w.heap.size, 0, none⟩), .int .u64 150] 189)).alloc (.cells #[.pointer (some ⟨3, 104, none⟩), .pointer (some ⟨w.heap.size, 0, none⟩), .int .u64 150] 189)).alloc (.cells #[.int .i64 c] 87)).cell? t = some old := by
    rw [World.cell?_alloc_lt _ _ t (by simp; omega), World.cell?_alloc_lt _ _ t (by simp; omega), World.cell?_alloc_lt _ _ t (by simp; omega), World.cell?_alloc_lt _ _ t htl]; exact ht0
  exact World.cell?_setCell_same' _ _ _ (by rw [h4]; rfl)
theorem as_EA (c : Int) (t : Addr) (w : World) (hG : Glob w) :
    Calls Tryz.prog 67 #[errV c, .iface 184 (.pointer (some t))] w fun ev w' => ev = .returned (.bool false) ∧ Below w.heap.size w w' := by
  refine (as_EA_x c t w hG).mono ?_
  rintro e w' ⟨rfl, rfl⟩
  exact ⟨rfl, (((Below.refl _ _).alloc (Nat.le_refl _) _).alloc (by simp) _).alloc (by simp; omega) _⟩
theorem bcell {W w1 : World} (hb : Below W.heap.size W w1) : (∀ b o, b < W.heap.size → w1.cell? ⟨b, o, none⟩ = W.cell? ⟨b, o, none⟩) ∧ (∀ b o, b < W.heap.size → w1.frozen? ⟨b, o, none⟩ = W.frozen? ⟨b, o, none⟩) :=
  ⟨fun b o h => hb.cell (p := ⟨b, o, none⟩) h, fun b o h => hb.frozen (p := ⟨b, o, none⟩) h⟩
theorem below_of_grown {w w' : World} {g B : Nat} (h : w.grownBy w' (some g)) (hg : B ≤ g) (hB : B ≤ w.heap.size) : Below B w w' :=
  ⟨h.os, h.tape, h.output, h.size, fun k hk => h.block k (by omega) (by simp; omega)⟩

/-- Is, of an error of a number: yes. -/
theorem is_E (c k : Int) (w : World) (hG : Glob w) (hk : 1 ≤ k) (hck : (c == k) = true) :
    Calls Tryz.prog 24 #[errV c, .int .i64 k] w fun e w' => e = .returned (.bool true) ∧ Below w.heap.size w w' := by
  have hk0 : (k == 0) = false := by simp; omega
  have hG' : Glob (w.alloc (.cells #[.int .i64 0] 87)) := hG.below ((Below.refl _ _).alloc (Nat.le_refl _) _) hG.lt
  go_enter Tryz.func24, Tryz.ntmps24
  go_wp2_with (go_at_call 67; refine (as_EE c ⟨w.heap.size, 0, none⟩ (.int .i64 0) _ hG' (by simp) (by simp)).mono ?_; rintro e w' ⟨rfl, hc, hg⟩)
  go_ret
  exact ⟨by simp, ((Below.refl _ _).alloc (Nat.le_refl _) _).trans (below_of_grown hg (Nat.le_refl _) (by simp))⟩
/-- Is, of no error: no. -/
theorem is_nil (k : Int) (w : World) (hk : 1 ≤ k) :
    Calls Tryz.prog 24 #[.nilIface, .int .i64 k] w fun e w' => e = .returned (.bool false) ∧ Below w.heap.size w w' := by
  have hk0 : (k == 0) = false := by simp; omega
  go_enter Tryz.func24, Tryz.ntmps24
  go_wp2
  go_ret
  exact ⟨rfl, (Below.refl _ _).alloc (Nat.le_refl _) _⟩

theorem keepS {h : Nat} {w1 w' w2 : World} (hh : h < w1.heap.size) (hn : Below w'.heap.size w' w2) (hs : w'.cell? ⟨h, 3, none⟩ = some (.bool false) ∧ w'.cell? ⟨h, 4, none⟩ = some (.bool false) ∧ Glob w' ∧ Below w1.heap.size w1 w') :
    w2.cell? ⟨h, 3, none⟩ = some (.bool false) ∧ w2.cell? ⟨h, 4, none⟩ = some (.bool false) ∧ Glob w2 ∧ Below w1.heap.size w1 w2 := by
  have hb := hs.2.2.2.size
  exact ⟨by rw [hn.cell (by show h < _; omega)]; exact hs.1, by rw [hn.cell (by show h < _; omega)]; exact hs.2.1, hs.2.2.1.below hn hs.2.2.1.lt, hs.2.2.2.trans (hn.mono hb)⟩
end Go.Proofs.YtbaopcpmmdmomaaGreatDoor
