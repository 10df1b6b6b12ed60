/- kept; the walk of the statement KeyRights. -/
import Derived.Test.YtbaopcpmmdmomaaGreatDoorKeyX
set_option linter.unusedSimpArgs false
set_option linter.unusedVariables false
namespace Go.Proofs.YtbaopcpmmdmomaaGreatDoor
open Go.RowKit
theorem cmpFrom_self (k v : Nat → List UInt8) (n : Nat) : ∀ f i, cmpFrom k v k v n n f i = 0 := by
  have hz : ∀ l, cmpL l l = 0 := fun l => by
    have := cmpL_good.anti l l
    omega
  intro f
  induction f with
  | zero => intro i; unfold cmpFrom; rw [if_neg (by omega), if_neg (by omega)]
  | succ f ih => intro i; unfold cmpFrom; rw [if_pos (hz _), if_pos (hz _)]; exact ih _
theorem cmpT_self (k v : Nat → List UInt8) (n : Nat) : cmpT k v k v n n = 0 := cmpFrom_self k v n _ _
theorem sametags_any (A1 A2 : Option Addr) (n1 c1 n2 c2 : Nat) (k1 v1 k2 v2 : Nat → List UInt8) (w : World) (h1 : TagRow w A1 n1 k1 v1) (h2 : TagRow w A2 n2 k2 v2) (hn1 : n1 ≤ 9223372036854775807) (hn2 : n2 ≤ 9223372036854775807) :
    Calls Tryz.prog 54 #[.slice A1 n1 c1, .slice A2 n2 c2] w fun e w' => e = .returned (.bool (cmpT k1 v1 k2 v2 n1 n2 == 0)) ∧ Below w.heap.size w w' := by
  have kc := ctags_any A1 A2 n1 c1 n2 c2 k1 v1 k2 v2 w h1 h2 hn1 hn2
  generalize cmpT k1 v1 k2 v2 n1 n2 = C at *
  clear h1 h2 hn1 hn2
  go_enter Tryz.func54, Tryz.ntmps54
  go_wp2_with fail
  refine kc.mono ?_
  rintro e w1 ⟨rfl, hb⟩
  go_wp2
  go_ret
  exact ⟨rfl, hb⟩
set_option maxHeartbeats 4000000 in
set_option maxRecDepth 100000 in
theorem kept_any (A : Option Addr) (n cap M capm : Nat) (tk tv : Nat → List UInt8) (w : World) (hr : TagRow w A n tk tv) (hm : TagRow w (some ⟨M, 0, none⟩) n tk tv) (c0 : w.cell? ⟨M, n * 2, none⟩ = some (strV markL)) (c1 : w.cell? ⟨M, n * 2 + 1, none⟩ = some (strV [])) (hcap : n + 1 ≤ capm) (hn : n * 32 ≤ 140737488351232) :
    Calls Tryz.prog 14 #[.slice (some ⟨M, 0, none⟩) n capm, .slice A n cap] w fun e w' => e = .returned (.bool true) ∧ Below w.heap.size w w' := by
  have kc := sametags_any (some ⟨M, 0, none⟩) A n capm n cap tk tv tk tv w hm hr (by omega) (by omega)
  rw [cmpT_self] at kc
  have l0 := cell_lt c0
  clear hr hm
  go_enter Tryz.func14, Tryz.ntmps14
  go_wp2_with fail
  refine kc.mono ?_
  rintro e w1 ⟨rfl, hb⟩
  have d0 : w1.cell? ⟨M, n * 2, none⟩ = some (strV markL) := by rw [hb.cell (p := ⟨M, n * 2, none⟩) l0]; exact c0
  have d1 : w1.cell? ⟨M, n * 2 + 1, none⟩ = some (strV []) := by rw [hb.cell (p := ⟨M, n * 2 + 1, none⟩) l0]; exact c1
  clear c0 c1 kc
  go_wp2
  go_ret
  exact ⟨rfl, hb⟩
theorem nameC_pos (l : List UInt8) : 0 ≤ nameC l := by unfold nameC; split <;> omega
theorem textC_pos (l : List UInt8) : 0 ≤ textC l := by unfold textC; split <;> omega
theorem tagsC_pos (n : Nat) (tk tv : Nat → List UInt8) : 0 ≤ tagsC n tk tv := by unfold tagsC; split <;> omega
theorem seriesC_pos (m f : List UInt8) (n : Nat) (tk tv : Nat → List UInt8) : 0 ≤ seriesC m f n tk tv := by
  have := nameC_pos m
  have := tagsC_pos n tk tv
  unfold seriesC
  repeat' split <;> omega
theorem TagRow.set {w : World} {M n B i : Nat} {tk tv : Nat → List UInt8} (h : TagRow w (some ⟨M, 0, none⟩) n tk tv) (u : Value) (hne : M ≠ B) : TagRow (w.setCell ⟨B, i, none⟩ u) (some ⟨M, 0, none⟩) n tk tv where
  row := fun hn => by
    obtain ⟨b, off, e, hr⟩ := h.row hn
    refine ⟨b, off, e, fun i hi => ?_⟩
    injection e with e
    injection e with e1 e2
    obtain ⟨h1, h2⟩ := hr i hi
    exact ⟨by rw [World.cell?_setCell_other _ _ _ _ (by intro e; injection e; omega)]; exact h1, by rw [World.cell?_setCell_other _ _ _ _ (by intro e; injection e; omega)]; exact h2⟩
  len := h.len
end Go.Proofs.YtbaopcpmmdmomaaGreatDoor
