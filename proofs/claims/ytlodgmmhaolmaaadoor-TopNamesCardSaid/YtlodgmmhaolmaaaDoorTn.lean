/- The statement TopNames: numbers, limits, one name. -/
import Derived.Test.YtlodgmmhaolmaaaDoorBas
import Derived.Test.YtlodgmmhaolmaaaDoorMap
set_option linter.unusedSimpArgs false
set_option linter.unusedVariables false
namespace Go.Proofs.YtlodgmmhaolmaaaDoor
open Go.RowKit
open Go.Maps (Keyed)
abbrev syntaxS : List UInt8 := [115, 121, 110, 116, 97, 120]
theorem lawE : Keyed Tryd.prog 23 := Maps.int_keyed Tryd.underlying23
/-- the map of names, being filled -/
def NamesIn (w0 w : World) (b n : Nat) (done : Bool) : Prop :=
  (∃ f, MapAt Tryd.prog w 23 b n f ∧ (done = true → f (.int .i64 140) = some (strV syntaxS))) ∧ Below w0.heap.size w0 w ∧ w0.heap.size ≤ b
theorem wpList_names (w : World) {ops : Array Oper} {rest : List Oper} {o : Oper} {a : Act} {Q : Exit → Act → World → Prop} (hg : o.guard = none) (m : Operand) (c : Int) (S : ByteArray) (hop : o.op = Op.insert 63 m (.const (.int .i64 c)) (.const (.string S))) (w0 : World) (b n : Nat) (done : Bool)
    (hm : a.eval m = .map (some b)) (h : NamesIn w0 w b n done) (hn : n < 100) (hc : (Lit.int .i64 c).wf = true) (hS : c = 140 → S = ⟨syntaxS.toArray⟩)
    (hK : ∀ w', NamesIn w0 w' b (n + 1) (done || c == 140) → wpList Tryd.prog ops Q rest (a.put o.dst undef) w') : wpList Tryd.prog ops Q (o :: rest) a w := by
  refine wpList_plain hg fun K' hK' => ?_
  obtain ⟨⟨f, hf, hd⟩, hb, hbl⟩ := h
  obtain ⟨w', hrun, hm', ht'⟩ := hf.store lawE Tryd.underlying63 (by unfold maxLen; omega) (.string S) (Maps.keyOf_int_mk Tryd.underlying23 hc)
  have h1 : NamesIn w0 w' b (n + 1) (done || c == 140) := by
    refine ⟨⟨_, hm', fun hd' => ?_⟩, hb.trans (Turned.below (S := [b]) (Turned.ofGrown ht'.grown (fun x e => by injection e with e; subst e; simp)) (fun x hx => by simp at hx; rw [hx]; exact hbl) hb.size), hbl⟩
    by_cases hcc : c = 140
    · subst hcc; rw [upd_same, hS rfl]
    · rw [upd_other _ _ (by intro e; injection e with _ e; exact hcc e.symm)]
      refine hd ?_
      have : (c == 140) = false := by simpa using hcc
      rw [this] at hd'; simpa using hd'
  have e1 : a.eval (.const (.int .i64 c)) = .int .i64 c := rfl
  have e2 : a.eval (.const (.string S)) = .string S := rfl
  unfold Oper.wp
  simp [execOp, hop, hm, e1, e2, hrun, Result.andThen]
  exact hK' _ _ (hK w' h1)
set_option maxHeartbeats 4000000 in
set_option maxRecDepth 100000 in
theorem names_any (w : World) : Calls Tryd.prog 25 #[] w fun e w' => ∃ b n, e = .returned (.map (some b)) ∧ NamesIn w w' b n true := by
  have hmm := @run_makeMap Tryd.prog
  have h0 : NamesIn w (w.alloc (.map #[] 0)) w.heap.size 0 false := ⟨⟨_, MapAt.made _ _ _, fun h => by cases h⟩, below1 _ _, Nat.le_refl _⟩
  go_enter Tryd.func25, Tryd.ntmps25
  go_wp2_with (refine wpList_names _ rfl _ _ _ rfl w w.heap.size _ _ rfl (by assumption) (by decide) (by decide) (by first | exact fun h => absurd h (by decide) | exact fun _ => rfl) ?_; intro w' h')
  go_ret
  exact ⟨_, _, rfl, by assumption⟩
set_option maxHeartbeats 4000000 in
set_option maxRecDepth 100000 in
theorem topnames_law (w : World) : Calls Tryd.prog 3 #[] w fun e w' => e = .returned (.bool true) ∧ Below w.heap.size w w' := by
  have kn : Calls Tryd.prog 6 #[.int .i64 140] w fun e w' => e = .returned (strV syntaxS) ∧ Below w.heap.size w w' := by
    have kk := names_any w
    go_enter Tryd.func6, Tryd.ntmps6
    go_wp2_with fail
    refine kk.mono ?_
    rintro e w1 ⟨b, n, rfl, ⟨⟨f, hf, hd⟩, hb, _⟩⟩
    have hl := (hf.look lawE Tryd.underlying63 (z := .string ⟨#[]⟩) (show (zeroValue 9).run Tryd.prog w1 = .ok (.string ⟨#[]⟩) w1 by kernel_rfl) (Maps.keyOf_int_mk Tryd.underlying23 (a := 140) (by decide))).1
    rw [hd rfl] at hl
    simp only [Option.getD_some, Option.isSome_some] at hl
    have HB : Bx _ := ⟨hb⟩
    clear hf hd hb kk
    go_wp2
    go_ret
    exact ⟨rfl, HB.out⟩
  go_enter Tryd.func3, Tryd.ntmps3
  go_wp2_with fail
  refine kn.mono ?_
  rintro e w1 ⟨rfl, hb⟩
  have HB : Bx _ := ⟨hb⟩
  clear hb kn
  go_wp2
  go_ret
  exact ⟨rfl, HB.out⟩
end Go.Proofs.YtlodgmmhaolmaaaDoor
