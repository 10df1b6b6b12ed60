/- The document's Ahead. -/
import Derived.Test.YtlodgmmhaolmaaaDoorHpC
import Derived.Test.YtlodgmmhaolmaaaDoorHpP
set_option linter.unusedSimpArgs false
set_option linter.unusedVariables false
namespace Go.Proofs.YtlodgmmhaolmaaaDoor
open Go.RowKit
set_option maxHeartbeats 2000000 in
theorem rahead_false (r1 r2 : Int) (s1 s2 : List UInt8) (w : World) : Calls Tryd.prog 67 #[.bool false, .agg #[.int .i64 r1, strV s1], .agg #[.int .i64 r2, strV s2]] w fun e w' => e = .returned (.bool (ltE (r1, s1) (r2, s2))) ∧ Below w.heap.size w w' := by
  unfold ltE
  simp only
  obtain ⟨X, hX⟩ : ∃ X, decide (r1 < r2) = X := ⟨_, rfl⟩
  obtain ⟨Y, hY⟩ : ∃ Y, decide (r1 = r2) = Y := ⟨_, rfl⟩
  obtain ⟨Z, hZ⟩ : ∃ Z, Op.bytesLess s1 s2 = Z := ⟨_, rfl⟩
  have hY' : (r1 == r2) = Y := by rw [← hY]; by_cases h : r1 = r2 <;> simp [h]
  rw [hX, hY, hZ]
  clear hY
  cases X <;> cases Y <;> cases Z <;>
  · go_enter Tryd.func67, Tryd.ntmps67
    go_wp2
    go_ret
    exact ⟨rfl, below2 _ _ _⟩
theorem lt_flip {a b : Ent} (h : a ≠ b) : ltE b a = !ltE a b := by
  cases hab : ltE a b with
  | true =>
    cases hba : ltE b a with
    | true => have := ltE_trans hab hba; rw [ltE_irrefl] at this; cases this
    | false => rfl
  | false =>
    cases hba : ltE b a with
    | true => rfl
    | false => exact absurd (ltE_total hab hba) h
set_option maxHeartbeats 2000000 in
theorem rahead_true (r1 r2 : Int) (s1 s2 : List UInt8) (w : World) : Calls Tryd.prog 67 #[.bool true, .agg #[.int .i64 r1, strV s1], .agg #[.int .i64 r2, strV s2]] w fun e w' => e = .returned (.bool (ltE (r2, s2) (r1, s1))) ∧ Below w.heap.size w w' := by
  by_cases hr : r1 = r2
  · subst hr
    by_cases hs : s1 = s2
    · subst hs
      rw [ltE_irrefl]
      have hZ := bl_irrefl s1
      go_enter Tryd.func67, Tryd.ntmps67
      go_wp2
      go_ret
      exact ⟨rfl, below2 _ _ _⟩
    · rw [lt_flip (fun e => hs (congrArg Prod.snd e))]
      have e : ltE (r1, s1) (r1, s2) = Op.bytesLess s1 s2 := by unfold ltE; simp
      rw [e]
      obtain ⟨Z, hZ⟩ : ∃ Z, Op.bytesLess s1 s2 = Z := ⟨_, rfl⟩
      have hs' : (s1 == s2) = false := by simpa using hs
      rw [hZ]
      clear e
      cases Z <;>
      · go_enter Tryd.func67, Tryd.ntmps67
        go_wp2
        go_ret
        exact ⟨rfl, below2 _ _ _⟩
  · rw [lt_flip (fun e => hr (congrArg Prod.fst e))]
    have hr' : (r1 == r2) = false := by simpa using hr
    have e : ltE (r1, s1) (r2, s2) = decide (r1 < r2) := by unfold ltE; simp [hr]
    rw [e]
    obtain ⟨X, hX⟩ : ∃ X, decide (r1 < r2) = X := ⟨_, rfl⟩
    rw [hX]
    clear e
    cases X <;>
    · go_enter Tryd.func67, Tryd.ntmps67
      go_wp2
      go_ret
      exact ⟨rfl, below2 _ _ _⟩
theorem rahead_any (mo : Bool) (r1 r2 : Int) (s1 s2 : List UInt8) (w : World) : Calls Tryd.prog 67 #[.bool mo, .agg #[.int .i64 r1, strV s1], .agg #[.int .i64 r2, strV s2]] w fun e w' => e = .returned (.bool (ahE mo (r1, s1) (r2, s2))) ∧ Below w.heap.size w w' := by
  cases mo
  · exact rahead_false r1 r2 s1 s2 w
  · exact rahead_true r1 r2 s1 s2 w
end Go.Proofs.YtlodgmmhaolmaaaDoor
