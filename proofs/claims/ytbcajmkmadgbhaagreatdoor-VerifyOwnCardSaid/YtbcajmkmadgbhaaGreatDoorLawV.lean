/- The frame of layer verify's cards: what the four listed variables give; a world for the witness. -/
import Derived.Test.YtbcajmkmadgbhaaGreatDoorLawK
import Derived.Test.YtbcajmkmadgbhaaGreatDoorVrC
namespace Go.Proofs.YtbcajmkmadgbhaaGreatDoor
open Go.ChangeShapes Go.WideShapes Go.ChangeAt Go.RowKit
/-- the four listed variables -/
abbrev verLaid : List (String × DataW Unit) := [("unicode/utf8.acceptRanges", Rows.laid_unicode_utf8_acceptRanges), ("errors.errorType", Rows.laid_errors_errorType), ("weir/code.table", Rows.laid_weir_code_table), ("unicode/utf8.first", Rows.laid_unicode_utf8_first)]
abbrev verPlain : List (String × DataW Unit) := [("unicode/utf8.acceptRanges", Rows.laid_unicode_utf8_acceptRanges), ("weir/code.table", Rows.laid_weir_code_table), ("unicode/utf8.first", Rows.laid_unicode_utf8_first)]
theorem verLaid_plain : (verLaid.filter fun x => x.2.handleName?.isNone) = verPlain := by kernel_rfl
theorem verLaid_err : (verLaid.filter fun x => x.1 == "errors.errorType") = [("errors.errorType", Rows.laid_errors_errorType)] := by kernel_rfl
/-- the rows of code.table -/
def tabL : List (DataW Unit) := match (Rows.laid_weir_code_table : DataW Unit) with | .agg xs => xs | _ => []
theorem tabL_eq : (Rows.laid_weir_code_table : DataW Unit) = .agg tabL := rfl
set_option maxRecDepth 100000 in
theorem tabL_at : ∀ c : Nat, c < 25 → ∃ s, tabL[c]? = some (.agg [s, .lit (.int .i64 (usesC c))]) := by
  intro c hc
  have : c = 0 ∨ c = 1 ∨ c = 2 ∨ c = 3 ∨ c = 4 ∨ c = 5 ∨ c = 6 ∨ c = 7 ∨ c = 8 ∨ c = 9 ∨ c = 10 ∨ c = 11 ∨ c = 12 ∨ c = 13 ∨ c = 14 ∨ c = 15 ∨ c = 16 ∨ c = 17 ∨ c = 18 ∨ c = 19 ∨ c = 20 ∨ c = 21 ∨ c = 22 ∨ c = 23 ∨ c = 24 := by omega
  rcases this with rfl|rfl|rfl|rfl|rfl|rfl|rfl|rfl|rfl|rfl|rfl|rfl|rfl|rfl|rfl|rfl|rfl|rfl|rfl|rfl|rfl|rfl|rfl|rfl|rfl <;> exact ⟨_, rfl⟩
theorem what_field {fs : Array Field} (hs : Tryz.prog.underlying 250 = some (.struct fs)) : ∃ f, fs[1]? = some f ∧ f.type = 3 ∧ f.offset = 1 := by
  have h := hs.symm.trans Tryz.underlying250
  injection h with h
  injection h with h
  subst h
  exact ⟨_, rfl, rfl, rfl⟩
set_option maxRecDepth 100000 in
theorem tabU_of_reads {W : World} (h : Lib.VarReads Tryz.prog W "weir/code.table" Rows.laid_weir_code_table) : TabU W := by
  obtain ⟨g, t, cs, fuel, p, h1, h2, h3, h4⟩ := h
  have hg : Tryz.prog.globalNamed "weir/code.table" = some 1 := by kernel_rfl
  have ht : (Tryz.prog.globals[1]?).map (·.type) = some 251 := by kernel_rfl
  obtain rfl : 1 = g := Option.some.inj (hg.symm.trans h1)
  obtain rfl : 251 = t := Option.some.inj (ht.symm.trans h2)
  obtain ⟨xs, m, rfl, hx, hl, hxl, hall⟩ := DataW.trod_array Tryz.underlying251 h4
  have hxs : xs.map (·.1) = tabL := by
    have := congrArg Prod.fst hx
    rw [tabL_eq] at this
    injection this with this
    exact this.symm
  refine ⟨fun c hc => ?_⟩
  rw [World.var?_cell hg h3]
  have he := hall c hc
  rw [show Tryz.prog.cellsOf 250 = 2 by kernel_rfl] at he
  obtain ⟨s, hs⟩ := tabL_at c hc
  rw [← hxs, List.getElem?_map] at hs
  cases hxc : xs[c]? with
  | none => rw [hxc] at hs; cases hs
  | some y =>
    rw [hxc] at hs he
    have hy : y.1 = .agg [s, .lit (.int .i64 (usesC c))] := by simpa using hs
    obtain ⟨fs, hfs⟩ : ∃ fs, Tryz.prog.underlying 250 = some (.struct fs) := ⟨_, Tryz.underlying250⟩
    obtain ⟨ys, n, _, hyy, hyl, hysl, hf⟩ := DataW.trod_struct hfs he
    obtain ⟨f, hf1, hf2, hf3⟩ := what_field hfs
    have h5 := hf 1 f hf1
    rw [hf2, hf3, show Tryz.prog.cellsOf 3 = 1 by kernel_rfl] at h5
    have hys : ys.map (·.1) = [s, .lit (.int .i64 (usesC c))] := by
      have := congrArg Prod.fst hyy
      rw [hy] at this
      injection this with this
      exact this.symm
    have hy1 : ∃ z, ys[1]? = some z ∧ z.1 = .lit (.int .i64 (usesC c)) := by
      have := congrArg (fun l : List (DataW Unit) => l[1]?) hys
      simp only [List.getElem?_map] at this
      cases hz : ys[1]? with
      | none => rw [hz] at this; cases this
      | some z => rw [hz] at this; exact ⟨z, rfl, by simpa using this⟩
    obtain ⟨z, hz, hz1⟩ := hy1
    rw [hz] at h5
    obtain ⟨a, hca, hza, _⟩ := DataW.trod_int Tryz.underlying3 h5
    have ha : a = usesC c := by
      rw [hza] at hz1
      simpa using hz1
    subst ha
    have hcl : cs.toList[c * 2 + 1]? = some (.int .i64 (usesC c)) := by
      have h6 := congrArg (fun l : List Value => l[0]?) hca
      simp only [List.getElem?_cons_zero] at h6
      rw [List.getElem?_take_of_lt (by omega), List.getElem?_drop, List.getElem?_take_of_lt (by omega), List.getElem?_drop] at h6
      exact h6
    simpa using hcl
theorem globV_of_laid {W : World} (h : laidMetH Tryz.prog verLaid W) : GlobK W ∧ TabU W := by
  have h1 := (laidMetH_iff.1 h).1
  rw [verLaid_plain] at h1
  have h2 := h.filter (fun x => x.1 == "errors.errorType")
  rw [verLaid_err] at h2
  have r4 := Lib.laidMet.reads h1 (.head _)
  have r2 := Lib.laidMet.reads h1 (.tail _ (.head _))
  have r3 := Lib.laidMet.reads h1 (.tail _ (.tail _ (.head _)))
  rw [acc_eq] at r4
  rw [first_eq] at r3
  exact ⟨⟨glob_of_laid h2, utf8Tabs_of_readsT (ρ := Tryz.lays196_ren) (U8Types.of196 Tryz.lays196) ⟨by kernel_rfl, by kernel_rfl, by kernel_rfl, by kernel_rfl, by kernel_rfl, by kernel_rfl, by kernel_rfl⟩ r3 r4⟩, tabU_of_reads r2⟩
def flatS : DataW Unit → List Value
  | .agg [.lit (.string s), .lit (.int q a)] => [.string ⟨s.toArray⟩, .int q a]
  | _ => []
/-- A world for the witness: the settled one, the variables' cells laid. -/
noncomputable def laidWorldV (os : Os) : World :=
  let w0 := laidWorldK os
  { w0 with heap := w0.heap.modify 1 fun
      | .cells _ t frozen => .cells (tabL.flatMap flatS).toArray t frozen
      | o => o }
theorem pieceV (os : Os) (args : Array Value) : LaidIn Tryz.prog ((laidWorldV os).forCall (fun _ _ => 0) ⟨#[], args, []⟩).memory verPlain [3, 1, 2] :=
  LaidIn.of_run [3, 1, 2] 8 (by kernel_rfl) (by kernel_rfl) (by kernel_rfl) (by kernel_rfl)
theorem laidWorldV_met (os : Os) (args : Array Value) : laidMetH Tryz.prog verLaid ((laidWorldV os).forCall (fun _ _ => 0) ⟨#[], args, []⟩).memory :=
  laidMetH_of_parts (by rw [verLaid_plain]; exact (pieceV os args).met) (by kernel_rfl)
end Go.Proofs.YtbcajmkmadgbhaaGreatDoor
