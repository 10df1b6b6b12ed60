/- Verify: code.Uses, has, jumps, rows, last, machine.of. Condition: code.table holds what the program's text lays in it. -/
import Derived.Test.YtbcajmkmadgbhaaGreatDoorVrB
import Derived.Laws.EntriesVeiled
import Derived.WalkSpells
import Derived.Outline
set_option linter.unusedSimpArgs false
set_option linter.unusedVariables false
namespace Go.Proofs.YtbcajmkmadgbhaaGreatDoor
open Go.RowKit
/-- how many operands an instruction uses -/
def usesC (c : Nat) : Int := if c = 3 ∨ c = 4 ∨ c = 5 ∨ c = 6 ∨ c = 16 then 2 else if c = 10 ∨ c = 11 ∨ c = 14 ∨ c = 15 ∨ c = 23 then 1 else 0
structure TabU (w : World) : Prop where
  u : ∀ c : Nat, c < 25 → w.cell? ⟨1, c * 2 + 1, none⟩ = some (.int .i64 (usesC c))
theorem TabU.below {w w' : World} (h : TabU w) (hb : Below w.heap.size w w') : TabU w' := ⟨fun c hc => by rw [hb.cell (cell_lt (h.u c hc))]; exact h.u c hc⟩
theorem uses_any (c : Nat) (w : World) (hc : c < 256) (hT : TabU w) : Calls Tryz.prog 110 #[.int .u8 c] w fun e w' => e = .returned (.int .i64 (usesC c)) ∧ w = w' := by
  by_cases h : c < 25
  · have h1 := hT.u c h
    have hb : decide ((c : Int) ≥ 25) = false := by simp; omega
    have hb2 : decide ((25 : Int) ≤ (c : Int)) = false := by simp; omega
    generalize usesC c = U at *
    go_enter Tryz.func110, Tryz.ntmps110
    go_wp2
    go_ret
    exact ⟨rfl, rfl⟩
  · have hb : decide ((c : Int) ≥ 25) = true := by simp; omega
    have hb2 : decide ((25 : Int) ≤ (c : Int)) = true := by simp; omega
    have hU : usesC c = 0 := by
      unfold usesC
      rw [if_neg (by omega), if_neg (by omega)]
    rw [hU]
    go_enter Tryz.func110, Tryz.ntmps110
    go_wp2
    go_ret
    exact ⟨rfl, rfl⟩
theorem has_any (n : Int) (m : Nat) (w : World) : Calls Tryz.prog 111 #[.int .i64 n, .int .i64 m] w fun e w' => e = .returned (.bool (inB n m)) ∧ w = w' := by
  unfold inB
  obtain ⟨X, hX⟩ : ∃ X, decide (0 ≤ n) = X := ⟨_, rfl⟩
  obtain ⟨Y, hY⟩ : ∃ Y, decide (n < (m : Int)) = Y := ⟨_, rfl⟩
  rw [hX, hY]
  cases X <;> cases Y <;>
  · go_enter Tryz.func111, Tryz.ntmps111
    go_wp2
    go_ret
    exact ⟨rfl, rfl⟩
theorem beq_code (c n : Nat) : (((c : Int) == (n : Int)) : Bool) = (c == n) := by
  rw [Bool.eq_iff_iff, beq_iff_eq, beq_iff_eq]; omega
theorem jumps_any (c : Nat) (w : World) : Calls Tryz.prog 31 #[.int .u8 c] w fun e w' => e = .returned (.bool (jumpC c)) ∧ w = w' := by
  unfold jumpC
  have e1 : (((c : Int) == 10) : Bool) = (c == 10) := beq_code c 10
  have e2 : (((c : Int) == 11) : Bool) = (c == 11) := beq_code c 11
  generalize (c == 10) = X at *
  generalize (c == 11) = Y at *
  cases X <;> cases Y <;>
  · go_enter Tryz.func31, Tryz.ntmps31
    go_wp2
    go_ret
    exact ⟨rfl, rfl⟩
/-- a machine as a value -/
abbrev machV (A : Option Addr) (n cap : Nat) (fi : Bool) (k : Int) : Value := .agg #[.slice A n cap, .bool fi, .int .i64 k]
theorem last_any (A : Option Addr) (n cap : Nat) (fi : Bool) (k : Int) (w : World) : Calls Tryz.prog 80 #[machV A n cap fi k] w fun e w' => e = .returned (.int .u8 (lastC fi : Nat)) ∧ Below w.heap.size w w' := by
  cases fi
  all_goals
    go_enter Tryz.func80, Tryz.ntmps80
    go_wp2
    go_ret
    exact ⟨rfl, below1 _ _⟩
theorem rows1_any (a b : Int) (w : World) : Calls Tryz.prog 112 #[.int .i64 a, .int .i64 b] w fun e w' => e = .returned (.agg #[.int .i64 a, .int .i64 b, .bool true, .bool false]) ∧ Below w.heap.size w w' := by
  go_enter Tryz.func112, Tryz.ntmps112
  go_wp2
  refine bodyPost_ret (by simp [results, Tryz.results112, go_sem]; rfl) rfl ?_
  exact ⟨rfl, below1 _ _⟩
theorem rows2_any (a b : Int) (w : World) : Calls Tryz.prog 113 #[.int .i64 a, .int .i64 b] w fun e w' => e = .returned (.agg #[.int .i64 a, .int .i64 b, .bool false, .bool true]) ∧ Below w.heap.size w w' := by
  go_enter Tryz.func113, Tryz.ntmps113
  go_wp2
  refine bodyPost_ret (by simp [results, Tryz.results113, go_sem]; rfl) rfl ?_
  exact ⟨rfl, below1 _ _⟩
end Go.Proofs.YtbcajmkmadgbhaaGreatDoor
