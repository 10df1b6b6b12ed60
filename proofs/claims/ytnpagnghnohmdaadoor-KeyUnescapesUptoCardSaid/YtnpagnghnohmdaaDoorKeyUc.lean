/- The walk of the statement KeyUnescapes. -/
import Derived.Test.YtnpagnghnohmdaaDoorKeyUb
set_option linter.unusedSimpArgs false
set_option linter.unusedVariables false
namespace Go.Proofs.YtnpagnghnohmdaaDoor
open Go.RowKit
set_option maxHeartbeats 8000000 in
set_option maxRecDepth 100000 in
theorem unescapes_at (l mo : List UInt8) (g r : Int) (c : UInt8) (w : World) (hl : l.length ≤ 1048576) (hm : mo.length ≤ 1048576) (hr : g.tmod 3 = r) (hrc : (r = 0 ∧ c = 44) ∨ (r = 1 ∧ c = 32) ∨ (r = 2 ∧ c = 61) ∨ (r = -1 ∧ c = 61) ∨ (r = -2 ∧ c = 32)) (hG : GlobK w) :
    Calls Tryd.prog 6 #[strV l, .int .i64 g, strV mo] w fun e w' => e = .returned (.bool true) ∧ Below w.heap.size w w' := by
  have HGK : Bx (GlobK w) := ⟨hG⟩
  have hel := escL_len l
  have hsp : specB c = true ∧ c ≠ 92 := by rcases hrc with ⟨_, rfl⟩ | ⟨_, rfl⟩ | ⟨_, rfl⟩ | ⟨_, rfl⟩ | ⟨_, rfl⟩ <;> exact ⟨rfl, by decide⟩
  have k0 := fun w => escape_any l w (by omega)
  have k1 := fun w => unescape_any (escL l) w (by omega)
  have u1 : unL (escL l) = (true, (escL l).length, l) := by have := unL_esc l [] (Or.inl rfl); rwa [List.append_nil] at this
  have a1 := fun w => run_string_add_lists (P := Tryd.prog) w (escL l) [c] (by omega) (by simp)
  have a2 := fun w => run_string_add_lists (P := Tryd.prog) w (escL l ++ [c]) mo (by simp; omega) (by omega)
  have k2 := fun w => unescape_any (escL l ++ [c] ++ mo) w (by simp; omega)
  have u2 : unL (escL l ++ [c] ++ mo) = (true, (escL l).length, l) := by
    rw [List.append_assoc]
    exact unL_esc l ([c] ++ mo) (Or.inr ⟨c, mo, rfl, hsp.1, hsp.2⟩)
  rw [u1] at k1
  rw [u2] at k2
  unfold unV at k1 k2
  generalize escL l = E at *
  obtain ⟨X1, h1⟩ : ∃ X, E ++ [c] = X := ⟨_, rfl⟩
  rw [h1] at a1 a2 k2
  obtain ⟨X2, h2⟩ : ∃ X, X1 ++ mo = X := ⟨_, rfl⟩
  rw [h2] at a2 k2
  clear u1 u2 h1 h2 hel hsp hG hl hm
  rcases hrc with ⟨rfl, rfl⟩ | ⟨rfl, rfl⟩ | ⟨rfl, rfl⟩ | ⟨rfl, rfl⟩ | ⟨rfl, rfl⟩
  all_goals
    go_enter Tryd.func6, Tryd.ntmps6
    go_wp2_with fail
    refine (k0 _).mono ?_
    rintro e w1 ⟨rfl, h1⟩
    go_wp2_with fail
    refine (k1 _).mono ?_
    rintro e w2 ⟨rfl, h2⟩
    have HB2 : Bx (Below w.heap.size w w2) := ⟨h1.trans (h2.mono h1.size)⟩
    clear h1 h2 k1 k0
    go_wp2_with fail
    refine (k2 _).mono ?_
    rintro e w3 ⟨rfl, h3⟩
    have HB3 : Bx (Below w.heap.size w w3) := ⟨HB2.out.trans (((below1 _ _).trans (h3.mono (by simp))).mono HB2.out.size)⟩
    clear h3 k2 a1 a2 HB2 hr
    go_wp2_with fail
    refine (live_any _ (HGK.out.below HB3.out)).mono ?_
    rintro e w4 ⟨rfl, h4⟩
    have HB4 : Bx (Below w.heap.size w w4) := ⟨HB3.out.trans (h4.mono HB3.out.size)⟩
    clear h4 HB3
    go_wp2
    go_ret
    exact ⟨rfl, HB4.out⟩
theorem unescapes_any (l mo : List UInt8) (g : Int) (w : World) (hl : l.length ≤ 1048576) (hm : mo.length ≤ 1048576) (hG : GlobK w) :
    Calls Tryd.prog 6 #[strV l, .int .i64 g, strV mo] w fun e w' => e = .returned (.bool true) ∧ Below w.heap.size w w' := by
  have hb : (g.tmod 3).natAbs = g.natAbs % 3 := by have := Int.natAbs_tmod g 3; exact this
  have h : g.tmod 3 = 0 ∨ g.tmod 3 = 1 ∨ g.tmod 3 = 2 ∨ g.tmod 3 = -1 ∨ g.tmod 3 = -2 := by omega
  rcases h with h | h | h | h | h
  · exact unescapes_at l mo g 0 44 w hl hm h (by simp) hG
  · exact unescapes_at l mo g 1 32 w hl hm h (by simp) hG
  · exact unescapes_at l mo g 2 61 w hl hm h (by simp) hG
  · exact unescapes_at l mo g (-1) 61 w hl hm h (by simp) hG
  · exact unescapes_at l mo g (-2) 32 w hl hm h (by simp) hG
end Go.Proofs.YtnpagnghnohmdaaDoor
