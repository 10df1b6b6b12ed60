/- Who is ahead is an order. -/
import Derived.Test.YtaolkcbbkanhbaaGreatDoorHpA
import Derived.Sort.Statements
set_option linter.unusedSimpArgs false
set_option linter.unusedVariables false
namespace Go.Proofs.YtaolkcbbkanhbaaGreatDoor
theorem bl_irrefl (a : List UInt8) : Op.bytesLess a a = false := by
  rw [bytesLess_eq]; exact decide_eq_false (List.lt_irrefl a)
theorem bl_trans {a b c : List UInt8} (h : Op.bytesLess a b = true) (g : Op.bytesLess b c = true) : Op.bytesLess a c = true := by
  rw [bytesLess_eq] at *
  exact decide_eq_true (List.lt_trans (of_decide_eq_true h) (of_decide_eq_true g))
theorem bl_total {a b : List UInt8} (h : Op.bytesLess a b = false) (g : Op.bytesLess b a = false) : a = b := by
  rw [bytesLess_eq] at *
  exact List.le_antisymm (of_decide_eq_false g) (of_decide_eq_false h)
theorem ltE_irrefl (a : Ent) : ltE a a = false := by simp [ltE, bl_irrefl]
theorem ltE_trans {a b c : Ent} (h : ltE a b = true) (g : ltE b c = true) : ltE a c = true := by
  simp only [ltE, Bool.or_eq_true, Bool.and_eq_true, decide_eq_true_eq] at *
  rcases h with h | ⟨h, h'⟩ <;> rcases g with g | ⟨g, g'⟩
  · left; omega
  · left; omega
  · left; omega
  · right; exact ⟨by omega, bl_trans h' g'⟩
theorem ltE_total {a b : Ent} (h : ltE a b = false) (g : ltE b a = false) : a = b := by
  simp only [ltE, Bool.or_eq_false_iff, Bool.and_eq_false_imp, decide_eq_false_iff_not, decide_eq_true_eq] at h g
  have e : a.1 = b.1 := by omega
  exact Prod.ext e (bl_total (h.2 e) (g.2 e.symm))
theorem ahE_irrefl (mo : Bool) (a : Ent) : ahE mo a a = false := by unfold ahE; split <;> exact ltE_irrefl a
theorem ahE_trans {mo : Bool} {a b c : Ent} (h : ahE mo a b = true) (g : ahE mo b c = true) : ahE mo a c = true := by
  unfold ahE at *
  cases mo
  · exact ltE_trans h g
  · exact ltE_trans g h
theorem ahE_total {mo : Bool} {a b : Ent} (h : ahE mo a b = false) (g : ahE mo b a = false) : a = b := by
  unfold ahE at *
  cases mo
  · exact ltE_total h g
  · exact ltE_total g h
theorem ahE_ntrans {mo : Bool} {a b c : Ent} (h : ahE mo a b = false) (g : ahE mo b c = false) : ahE mo a c = false := by
  cases hac : ahE mo a c with
  | false => rfl
  | true =>
    cases hba : ahE mo b a with
    | true => rw [ahE_trans hba hac] at g; cases g
    | false =>
      have := ahE_total h hba
      subst this
      rw [hac] at g; cases g
/-- what the program's comparison of entries tells -/
def cfE (mo : Bool) (a b : Ent) : Int := if ahE mo a b then -1 else 1
end Go.Proofs.YtaolkcbbkanhbaaGreatDoor
