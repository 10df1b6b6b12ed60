/- Openers: slices of structs and structs among a statement's arguments, by their cells. -/
import Derived.Test.YtaolkcbbkanhbaaGreatDoorLaw
import Derived.Test.YtaolkcbbkanhbaaGreatDoorBas
import Derived.Deep.Slices
import Derived.SizedLaws
set_option linter.unusedVariables false
namespace Go.Proofs.YtaolkcbbkanhbaaGreatDoor
open Go.ChangeShapes Go.WideShapes Go.ChangeAt Go.RowKit Go.Deep
section
variable {H : Type} {enc : TypeId × Value → H} {P : Program} {W : World}
/-- a slice among the arguments: its elements, each by its cells -/
theorem slice_each {t e : TypeId} {fuel k : Nat} {A : Option Addr} {n cap : Nat} {d : DataW H} {p : List MemPlace} (ht : P.underlying t = some (.slice e)) (hk : P.cellsOf e = k) (hk0 : 0 < k)
    (h : DataW.trod enc P W 0 (fun _ => true) true fuel t [Value.slice A n cap] = some (d, p)) :
    n ≤ 9223372036854775807 ∧ (A = none → n = 0 ∧ cap = 0) ∧ (0 < n → ∃ el sp, d = .slice el sp ∧ n ≤ el.length + sp.length) ∧
    (0 < n → ∃ b off, A = some ⟨b, off, none⟩ ∧ ∀ i, i < n → ∃ (cs : List Value) (fu : Nat) (y : DataW H × List MemPlace), cs.length = k ∧ (∀ j, j < k → W.cell? ⟨b, off + i * k + j, none⟩ = cs[j]?) ∧ DataW.trod enc P W 0 (fun _ => true) true fu e cs = some y) := by
  rcases open_slice ht h with ⟨hcs, _⟩ | ⟨a, len, cp, m, fu, D, Pl, hcs, _, hl, hm, hmm, hx, hi⟩
  · simp only [List.cons.injEq, Value.slice.injEq, and_true] at hcs
    obtain ⟨rfl, rfl, rfl⟩ := hcs
    exact ⟨by omega, fun _ => ⟨rfl, rfl⟩, fun h => absurd h (by omega), fun h => absurd h (by omega)⟩
  · simp only [List.cons.injEq, Value.slice.injEq, and_true] at hcs
    obtain ⟨rfl, rfl, rfl⟩ := hcs
    simp only [if_true] at hmm
    unfold maxLen at hm
    obtain ⟨rfl, _⟩ := Prod.mk.inj hx
    refine ⟨by omega, (by intro e; cases e), fun hn => ⟨_, _, rfl, by simp⟩, fun hn => ?_⟩
    obtain ⟨b, off, spot⟩ := a
    have hspot : spot = none := by
      obtain ⟨cs', h1, _⟩ := hi 0 (by omega)
      obtain ⟨_, hlen, hcell⟩ := World.cells?_some h1
      rw [hk] at hlen
      have h0 := hcell 0 (by rw [hk]; exact hk0)
      rw [Nat.zero_mul] at h0
      have hs : ∃ v, cs'[0]? = some v := ⟨cs'[0]'(by omega), List.getElem?_eq_getElem (by omega)⟩
      obtain ⟨v, hv⟩ := hs
      rw [hv] at h0
      simpa [Addr.add] using World.cell?_spot h0
    subst hspot
    refine ⟨b, off, rfl, fun i hin => ?_⟩
    obtain ⟨cs', h1, h2⟩ := hi i (by omega)
    obtain ⟨_, hlen, hcell⟩ := World.cells?_some h1
    rw [hk] at hlen hcell
    refine ⟨cs', fu, _, hlen, fun j hj => ?_, h2⟩
    have := hcell j hj
    rw [Go.Deep.add_add, Go.WideShapes.add_plain] at this
    rw [← this, Nat.add_assoc]
/-- a field of one cell -/
theorem field_one {e : TypeId} {fs : Array Field} {fu : Nat} {cs : List Value} {y : DataW H × List MemPlace} (he : P.underlying e = some (.struct fs)) (h : DataW.trod enc P W 0 (fun _ => true) true fu e cs = some y) (i : Nat) (f : Field) (o : Nat) (hf : fs[i]? = some f) (ho : f.offset = o)
    (hc : P.cellsOf f.type = 1) (hlt : o < cs.length) : ∃ (v : Value) (n : Nat) (z : DataW H × List MemPlace), cs[o]? = some v ∧ DataW.trod enc P W 0 (fun _ => true) true n f.type [v] = some z := by
  obtain ⟨xs, n, _, _, _, hl, hall⟩ := DataW.trod_struct he h
  have hi : i < fs.size := (Array.getElem?_eq_some_iff.1 hf).1
  have := hall i f hf
  rw [ho, hc, List.drop_eq_getElem_cons hlt, List.take_succ_cons, List.take_zero, List.getElem?_eq_getElem (by omega)] at this
  exact ⟨cs[o], n, _, List.getElem?_eq_getElem hlt, this⟩
/-- a field of more cells -/
theorem field_more {e : TypeId} {fs : Array Field} {fu : Nat} {cs : List Value} {y : DataW H × List MemPlace} (he : P.underlying e = some (.struct fs)) (h : DataW.trod enc P W 0 (fun _ => true) true fu e cs = some y) (i : Nat) (f : Field) (hf : fs[i]? = some f) :
    ∃ (n : Nat) (z : DataW H × List MemPlace), DataW.trod enc P W 0 (fun _ => true) true n f.type ((cs.drop f.offset).take (P.cellsOf f.type)) = some z := by
  obtain ⟨xs, n, _, _, _, hl, hall⟩ := DataW.trod_struct he h
  have hi : i < fs.size := (Array.getElem?_eq_some_iff.1 hf).1
  have := hall i f hf
  rw [List.getElem?_eq_getElem (by omega)] at this
  exact ⟨n, _, this⟩
theorem str_of {T : TypeId} {n : Nat} {v : Value} {z : DataW H × List MemPlace} (hT : P.underlying T = some .string) (h : DataW.trod enc P W 0 (fun _ => true) true n T [v] = some z) : ∃ s : List UInt8, v = strV s ∧ s.length ≤ 9223372036854775807 := by
  obtain ⟨s, e, _, hz⟩ := DataW.trod_string hT h
  simp only [List.cons.injEq, and_true] at e
  unfold maxLen at hz
  exact ⟨s.data.toList, e, by rw [Array.length_toList]; exact hz⟩
theorem int_of {T : TypeId} {q : IntKind} {n : Nat} {v : Value} {z : DataW H × List MemPlace} (hT : P.underlying T = some (.int q)) (h : DataW.trod enc P W 0 (fun _ => true) true n T [v] = some z) : ∃ a : Int, v = .int q a ∧ (Lit.int q a).wf = true := by
  obtain ⟨a, e, _, hw⟩ := DataW.trod_int hT h
  simp only [List.cons.injEq, and_true] at e
  exact ⟨a, e, hw⟩
theorem bool_of {T : TypeId} {n : Nat} {v : Value} {z : DataW H × List MemPlace} (hT : P.underlying T = some .bool) (h : DataW.trod enc P W 0 (fun _ => true) true n T [v] = some z) : ∃ b : Bool, v = .bool b := by
  cases n with
  | zero => simp [DataW.trod] at h
  | succ n =>
    unfold DataW.trod at h
    rw [hT] at h
    cases v <;> simp_all
theorem slice_of {t e : TypeId} {n : Nat} {v : Value} {z : DataW H × List MemPlace} (ht : P.underlying t = some (.slice e)) (h : DataW.trod enc P W 0 (fun _ => true) true n t [v] = some z) : ∃ A m c, v = .slice A m c := by
  rcases open_slice ht h with ⟨hcs, _⟩ | ⟨a, len, cp, m, fu, D, Pl, hcs, _⟩
  · simp only [List.cons.injEq, and_true] at hcs; exact ⟨_, _, _, hcs⟩
  · simp only [List.cons.injEq, and_true] at hcs; exact ⟨_, _, _, hcs⟩
end
end Go.Proofs.YtaolkcbbkanhbaaGreatDoor
