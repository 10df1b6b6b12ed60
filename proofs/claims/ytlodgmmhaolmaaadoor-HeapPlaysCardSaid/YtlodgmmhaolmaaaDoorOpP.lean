/- Rows of calls among a statement's arguments, each with its list of entries. -/
import Derived.Test.YtlodgmmhaolmaaaDoorHpO
import Derived.SizedLaws
set_option linter.unusedVariables false
namespace Go.Proofs.YtlodgmmhaolmaaaDoor
open Go.ChangeShapes Go.WideShapes Go.ChangeAt Go.RowKit Go.Deep
section
variable {H : Type} {enc : TypeId × Value → H} {W : World}
theorem weights_all {P : Program} {e : TypeId} : ∀ {l : List (DataW H)} {d : DataW H}, d ∈ l → ∀ n ∈ d.weights P e, n ∈ DataW.weightsAll P e l
  | d0 :: r, d, hd, n, hn => by
    simp only [DataW.weightsAll, List.mem_append]
    rcases List.mem_cons.1 hd with rfl | h
    · exact Or.inl hn
    · exact Or.inr (weights_all h n hn)
  | [], d, hd, n, hn => by cases hd
/-- a slice's elements, each with its weights -/
theorem slice_each_w {P : Program} {t e : TypeId} {fuel k : Nat} {A : Option Addr} {n cap : Nat} {d : DataW H} {p : List MemPlace} (ht : P.underlying t = some (.slice e)) (hk : P.cellsOf e = k) (hk0 : 0 < k)
    (h : DataW.trod enc P W 0 (fun _ => true) true fuel t [Value.slice A n cap] = some (d, p)) (h0 : 0 < n) :
    ∃ b off, A = some ⟨b, off, none⟩ ∧ ∀ i, i < n → ∃ (cs : List Value) (fu : Nat) (y : DataW H × List MemPlace), cs.length = k ∧ (∀ j, j < k → W.cell? ⟨b, off + i * k + j, none⟩ = cs[j]?) ∧ DataW.trod enc P W 0 (fun _ => true) true fu e cs = some y ∧ ∀ q ∈ DataW.weights P e y.1, q ∈ DataW.weights P t d := by
  rcases open_slice ht h with ⟨hcs, _⟩ | ⟨a, len, cp, m, fu, D, Pl, hcs, _, hl, hm, hmm, hx, hi⟩
  · simp only [List.cons.injEq, Value.slice.injEq, and_true] at hcs
    omega
  · simp only [List.cons.injEq, Value.slice.injEq, and_true] at hcs
    obtain ⟨rfl, rfl, rfl⟩ := hcs
    simp only [if_true] at hmm
    obtain ⟨rfl, _⟩ := Prod.mk.inj hx
    obtain ⟨b, off, spot⟩ := a
    have hspot : spot = none := by
      obtain ⟨cs', h1, _⟩ := hi 0 (by omega)
      obtain ⟨_, hlen, hcell⟩ := World.cells?_some h1
      rw [hk] at hlen
      have h0 := hcell 0 (by rw [hk]; exact hk0)
      rw [Nat.zero_mul] at h0
      have hs : ∃ v, cs'[0]? = some v := ⟨cs'[0]'(by omega), List.getElem?_eq_getElem (by omega)⟩
      obtain ⟨v, hv⟩ := hs
      rw [hv] at h0
      simpa [Addr.add] using World.cell?_spot h0
    subst hspot
    refine ⟨b, off, rfl, fun i hin => ?_⟩
    obtain ⟨cs', h1, h2⟩ := hi i (by omega)
    obtain ⟨_, hlen, hcell⟩ := World.cells?_some h1
    rw [hk] at hlen hcell
    refine ⟨cs', fu, _, hlen, fun j hj => ?_, h2, fun q hq => ?_⟩
    · have := hcell j hj
      rw [Go.Deep.add_add, Go.WideShapes.add_plain] at this
      rw [← this, Nat.add_assoc]
    · simp only [DataW.weights, ht]
      exact List.mem_cons_of_mem _ (List.mem_append_left _ (weights_all (List.mem_map.2 ⟨i, List.mem_range.2 hin, rfl⟩) q hq))
/-- each call's list -/
theorem ops_lists {fuel : Nat} {A : Option Addr} {n cap : Nat} {d : DataW H} {p : List MemPlace} (h : DataW.trod enc Tryd.prog W 0 (fun _ => true) true fuel 25 [Value.slice A n cap] = some (d, p))
    (hw : ∀ k ∈ DataW.weights Tryd.prog 25 d, k ≤ reachBytes) {kd : Nat → Int} {en : Nat → Ent} {x1 : Nat → Int} {x2 : Nat → Bool} {x5 : Nat → Option Addr × Nat × Nat} (ho : OpRow W A n kd en x1 x2 x5) (k : Nat) (hkn : k < n) :
    ∃ Lk, EntRow W (x5 k).1 (x5 k).2.1 Lk ∧ Texts Lk ∧ ((x5 k).1 = none → (x5 k).2.1 = 0 ∧ (x5 k).2.2 = 0) ∧ (x5 k).2.1 ≤ 5864062014634 := by
  obtain ⟨b, off, rfl, hi⟩ := slice_each_w Tryd.underlying25 (show Tryd.prog.cellsOf 48 = 6 by kernel_rfl) (by decide) h (by omega)
  obtain ⟨cs, fu, y, hl, hc, ht, hwy⟩ := hi k hkn
  obtain ⟨b', off', hb', hcell⟩ := ho.row (by omega)
  injection hb' with hb'
  injection hb' with e1 e2
  subst e1 e2
  have h5 := (hcell k hkn).2.2.2.2.2
  rw [hc 5 (by omega)] at h5
  obtain ⟨xs, m, _, rfl, _, hlen, hall⟩ := DataW.trod_struct Tryd.underlying48 ht
  have h4 := hall 4 _ rfl
  have hx4 : xs[4]? = some (xs[4]'(by rw [hlen]; decide)) := List.getElem?_eq_getElem _
  rw [hx4] at h4
  generalize xs[4]'(by rw [hlen]; decide) = z at h4 hx4
  have hd5 : (cs.drop 5).take 1 = [.slice (x5 k).1 (x5 k).2.1 (x5 k).2.2] := by
    rw [List.drop_eq_getElem_cons (by omega), List.take_succ_cons, List.take_zero]
    rw [List.getElem?_eq_getElem (by omega)] at h5
    injection h5 with h5
    rw [h5]
  have h4' : DataW.trod enc Tryd.prog W 0 (fun _ => true) true m 30 ((cs.drop 5).take (Tryd.prog.cellsOf 30)) = some z := h4
  rw [show Tryd.prog.cellsOf 30 = 1 by kernel_rfl, hd5] at h4'
  obtain ⟨dz, pz⟩ := z
  obtain ⟨Lk, g1, g2, _, g3, g4⟩ := ents_opened h4'
  refine ⟨Lk, g1, g2, g3, ?_⟩
  rcases Nat.eq_zero_or_pos (x5 k).2.1 with h0 | h0
  · omega
  · obtain ⟨el, sp, rfl, hle⟩ := g4 h0
    have hq := hw _ (hwy ((el.length + sp.length) * Tryd.prog.bytesOf 27) (by
      simp only [DataW.weights, Tryd.underlying48]
      exact DataW.weights_mem_each (j := 4) (t := 30) (d := .slice el sp) rfl (by rw [List.getElem?_map, hx4]; rfl) _ (by simp [DataW.weights, Tryd.underlying30])))
    rw [show Tryd.prog.bytesOf 27 = 24 by kernel_rfl] at hq
    unfold reachBytes at hq
    omega
end
end Go.Proofs.YtlodgmmhaolmaaaDoor
