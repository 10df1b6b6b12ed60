/- A slice of truths among a statement's arguments. -/
import Derived.Test.YtbcajmkmadgbhaaDoorVrSl
import Derived.Test.YtbcajmkmadgbhaaDoorVrZ
set_option linter.unusedVariables false
namespace Go.Proofs.YtbcajmkmadgbhaaDoor
open Go.ChangeShapes Go.WideShapes Go.ChangeAt Go.RowKit Go.Deep
section
variable {H : Type} {enc : TypeId × Value → H} {W : World}
theorem bools_opened {fuel : Nat} {A : Option Addr} {n cap : Nat} {z : DataW H × List MemPlace} (h : DataW.trod enc Tryd.prog W 0 (fun _ => true) true fuel 47 [Value.slice A n cap] = some z) : ∃ l : List Bool, n = l.length ∧ BoolL W A l := by
  obtain ⟨d, p⟩ := z
  obtain ⟨l, e, hr, _⟩ := row_opened (k := 1) (en := fun b : Bool => [Value.bool b]) (Q := fun _ => True) Tryd.underlying47 (by kernel_rfl) (by decide) h (fun cs fu y hl ht => by
    obtain ⟨v, rfl⟩ := len_one hl
    obtain ⟨b, rfl⟩ := bool_of Tryd.underlying4 ht
    exact ⟨b, trivial, fun j v hj => one_at hj⟩)
  exact ⟨l, e, hr⟩
end
end Go.Proofs.YtbcajmkmadgbhaaDoor
