/- Plain law: a series' key is read as that series; what is read is written so. -/
import Derived.Test.YtnpagnghnohmdaaDoorKeyPh
set_option linter.unusedSimpArgs false
set_option linter.unusedVariables false
namespace Go.Proofs.YtnpagnghnohmdaaDoor
open Go.RowKit
theorem pcR_fwd (pre t rest : List UInt8) (hr : rest = [] ∨ ∃ c u, rest = c :: u ∧ specB c = true ∧ c ≠ 92) : pcR (pre ++ (escL t ++ rest)) pre.length none = (t, pre.length + (escL t).length, none) := by
  unfold pcR
  rw [List.drop_left, unL_esc t rest hr]
theorem isR_at (pre : List UInt8) (c : UInt8) (t : List UInt8) : isR (pre ++ c :: t) pre.length none c = true := by
  unfold isR
  rw [getD_at]
  simp
theorem isR_not (pre : List UInt8) (c d : UInt8) (t : List UInt8) (h : d ≠ c) : isR (pre ++ d :: t) pre.length none c = false := by
  unfold isR
  rw [getD_at]
  simp [h]
theorem sp44 : specB 44 = true ∧ (44 : UInt8) ≠ 92 := by decide
theorem sp61 : specB 61 = true ∧ (61 : UInt8) ≠ 92 := by decide
theorem sp32 : specB 32 = true ∧ (32 : UInt8) ≠ 92 := by decide
/-- a tag written -/
def tagT (p : List UInt8 × List UInt8) : List UInt8 := [44] ++ escL p.1 ++ [61] ++ escL p.2
theorem tagF_fwd (pre a b rest : List UInt8) (hr : rest = [] ∨ ∃ c u, rest = c :: u ∧ specB c = true ∧ c ≠ 92) : tagF (pre ++ (tagT (a, b) ++ rest)) pre.length = (none, (pre ++ tagT (a, b)).length, (a, b)) := by
  have e1 : pre ++ (tagT (a, b) ++ rest) = (pre ++ [44]) ++ (escL a ++ (61 :: (escL b ++ rest))) := by simp [tagT]
  have e2 : pre ++ (tagT (a, b) ++ rest) = (pre ++ [44] ++ escL a) ++ 61 :: (escL b ++ rest) := by simp [tagT]
  have e3 : pre ++ (tagT (a, b) ++ rest) = (pre ++ [44] ++ escL a ++ [61]) ++ (escL b ++ rest) := by simp [tagT]
  have p1 : pcR (pre ++ (tagT (a, b) ++ rest)) (pre.length + 1) none = (a, (pre ++ [44] ++ escL a).length, none) := by
    have := pcR_fwd (pre ++ [44]) a (61 :: (escL b ++ rest)) (.inr ⟨61, _, rfl, sp61.1, sp61.2⟩)
    rw [← e1] at this
    have h1 : (pre ++ [44]).length = pre.length + 1 := by simp
    have h2 : (pre ++ [44] ++ escL a).length = pre.length + 1 + (escL a).length := by simp; omega
    rw [h1] at this
    rw [this, h2]
  have p2 : isR (pre ++ (tagT (a, b) ++ rest)) (pre ++ [44] ++ escL a).length none 61 = true := by
    rw [e2]; exact isR_at _ _ _
  have p3 : pcR (pre ++ (tagT (a, b) ++ rest)) ((pre ++ [44] ++ escL a).length + 1) none = (b, (pre ++ tagT (a, b)).length, none) := by
    have := pcR_fwd (pre ++ [44] ++ escL a ++ [61]) b rest hr
    rw [← e3] at this
    have hle : (pre ++ [44] ++ escL a ++ [61]).length = (pre ++ [44] ++ escL a).length + 1 := by simp; omega
    rw [hle] at this
    rw [this]
    simp [tagT]; omega
  unfold tagF
  rw [p1]
  simp only
  rw [if_pos p2, p3]
/-- the first k tags -/
def tagsTo (tk tv : Nat → List UInt8) (k : Nat) : List (List UInt8 × List UInt8) := (List.range k).map fun i => (tk i, tv i)
theorem tagsTo_succ (tk tv : Nat → List UInt8) (k : Nat) : tagsTo tk tv (k + 1) = tagsTo tk tv k ++ [(tk k, tv k)] := by simp [tagsTo, List.range_succ]
theorem tagsTo_len (tk tv : Nat → List UInt8) (k : Nat) : (tagsTo tk tv k).length = k := by simp [tagsTo]
theorem tagsTo_get (tk tv : Nat → List UInt8) {k i : Nat} (h : i < k) : (tagsTo tk tv k).getD i ([], []) = (tk i, tv i) := by
  simp [tagsTo, List.getD_eq_getElem?_getD, h]
theorem part_rest (m f : List UInt8) (tk tv : Nat → List UInt8) (n : Nat) : ∀ d k, k + d = n → ∃ rest, partP m tk tv n ++ [32] ++ escL f = partP m tk tv k ++ rest ∧ ∃ c u, rest = c :: u ∧ specB c = true ∧ c ≠ 92
  | 0, k, h => ⟨[32] ++ escL f, by rw [show n = k by omega, List.append_assoc], 32, escL f, rfl, sp32.1, sp32.2⟩
  | d + 1, k, h => by
    obtain ⟨rest, hr, _⟩ := part_rest m f tk tv n d (k + 1) (by omega)
    refine ⟨tagT (tk k, tv k) ++ rest, ?_, 44, escL (tk k) ++ [61] ++ escL (tv k) ++ rest, by simp [tagT], sp44.1, sp44.2⟩
    rw [hr]
    show partP m tk tv k ++ ([44] ++ escL (tk k) ++ [61] ++ escL (tv k)) ++ rest = _
    simp [tagT]
theorem lpF_fwd (m f : List UInt8) (tk tv : Nat → List UInt8) (n : Nat) : ∀ d k fu, k + d = n → (partP m tk tv n ++ [32] ++ escL f).length ≤ (partP m tk tv k).length + fu →
    lpF (partP m tk tv n ++ [32] ++ escL f) fu none (partP m tk tv k).length (tagsTo tk tv k) = (none, (partP m tk tv n).length, tagsTo tk tv n)
  | 0, k, fu, h, hf => by
    obtain rfl : n = k := by omega
    rw [lpF_stop]
    rw [List.append_assoc]
    exact isR_not _ 44 32 _ (by decide)
  | d + 1, k, fu, h, hf => by
    obtain ⟨rest, hr, hc⟩ := part_rest m f tk tv n d (k + 1) (by omega)
    have hX : partP m tk tv n ++ [32] ++ escL f = partP m tk tv k ++ (tagT (tk k, tv k) ++ rest) := by
      rw [hr]
      show partP m tk tv k ++ ([44] ++ escL (tk k) ++ [61] ++ escL (tv k)) ++ rest = _
      simp [tagT]
    have his : isR (partP m tk tv n ++ [32] ++ escL f) (partP m tk tv k).length none 44 = true := by
      rw [hX]
      have : tagT (tk k, tv k) ++ rest = 44 :: (escL (tk k) ++ [61] ++ escL (tv k) ++ rest) := by simp [tagT]
      rw [this]
      exact isR_at _ _ _
    obtain ⟨f', hf', e⟩ := lpF_step (ts := tagsTo tk tv k) hf his
    have ht := tagF_fwd (partP m tk tv k) (tk k) (tv k) rest (.inr hc)
    rw [← hX] at ht
    have hp : partP m tk tv k ++ tagT (tk k, tv k) = partP m tk tv (k + 1) := by
      show _ = partP m tk tv k ++ ([44] ++ escL (tk k) ++ [61] ++ escL (tv k))
      simp [tagT]
    rw [hp] at ht
    rw [e, ht]
    simp only
    rw [← tagsTo_succ]
    have hlt : (partP m tk tv k).length + 1 ≤ (partP m tk tv (k + 1)).length := by rw [← hp]; simp [tagT]
    exact lpF_fwd m f tk tv n d (k + 1) f' (by omega) (by omega)
theorem parF_key (m f : List UInt8) (n : Nat) (tk tv : Nat → List UInt8) : parF (partP m tk tv n ++ [32] ++ escL f) = (none, m, tagsTo tk tv n, f) := by
  have h0 : pcR (partP m tk tv n ++ [32] ++ escL f) 0 none = (m, (partP m tk tv 0).length, none) := by
    obtain ⟨rest, hr, hc⟩ := part_rest m f tk tv n n 0 (by omega)
    have := pcR_fwd [] m rest (.inr hc)
    rw [hr]
    simpa [partP] using this
  have hl := lpF_fwd m f tk tv n n 0 (partP m tk tv n ++ [32] ++ escL f).length (by omega) (by omega)
  have he : endF (partP m tk tv n ++ [32] ++ escL f) (partP m tk tv n).length none = (none, f) := by
    have i1 : isR (partP m tk tv n ++ [32] ++ escL f) (partP m tk tv n).length none 32 = true := by rw [List.append_assoc]; exact isR_at _ _ _
    have p1 : pcR (partP m tk tv n ++ [32] ++ escL f) ((partP m tk tv n).length + 1) none = (f, (partP m tk tv n ++ [32] ++ escL f).length, none) := by
      have := pcR_fwd (partP m tk tv n ++ [32]) f [] (.inl rfl)
      have h1 : (partP m tk tv n ++ [32]).length = (partP m tk tv n).length + 1 := by simp
      have h2 : (partP m tk tv n ++ [32] ++ escL f).length = (partP m tk tv n).length + 1 + (escL f).length := by simp; omega
      rw [List.append_nil, h1] at this
      rw [this, h2]
    unfold endF
    simp only
    rw [if_pos i1, p1]
    simp
  unfold parF
  rw [h0]
  simp only
  rw [show tagsTo tk tv 0 = [] from rfl] at hl
  rw [hl]
  simp only
  rw [he]
theorem wrongU_congr {n : Nat} {tk tv tk' tv' : Nat → List UInt8} : ∀ {k : Nat}, (∀ i, i < k → tk i = tk' i ∧ tv i = tv' i) → wrongU n tk tv k = wrongU n tk' tv' k
  | 0, _ => rfl
  | k + 1, h => by
    unfold wrongU tagBad
    rw [wrongU_congr (fun i hi => h i (by omega)), (h k (by omega)).1, (h k (by omega)).2, (h (k - 1) (by omega)).1]
theorem seriesC_congr {m f : List UInt8} {n : Nat} {tk tv tk' tv' : Nat → List UInt8} (h : ∀ i, i < n → tk i = tk' i ∧ tv i = tv' i) : seriesC m f n tk tv = seriesC m f n tk' tv' := by
  unfold seriesC tagsC
  rw [wrongU_congr h]
theorem partP_congr {m : List UInt8} {tk tv tk' tv' : Nat → List UInt8} : ∀ {k : Nat}, (∀ i, i < k → tk i = tk' i ∧ tv i = tv' i) → partP m tk tv k = partP m tk' tv' k
  | 0, _ => rfl
  | k + 1, h => by
    unfold partP
    rw [partP_congr (fun i hi => h i (by omega)), (h k (by omega)).1, (h k (by omega)).2]
/-- there and back -/
theorem key_back {m f : List UInt8} {n : Nat} {tk tv : Nat → List UInt8} (h : seriesC m f n tk tv = 0) : kindF (keyL m f n tk tv) = (none, 0) ∧ serF (keyL m f n tk tv) = (m, tagsTo tk tv n, f) := by
  have hk : keyL m f n tk tv = partP m tk tv n ++ [32] ++ escL f := by unfold keyL; rw [if_pos h]
  have hp := parF_key m f n tk tv
  rw [← hk] at hp
  have hc : seriesC m f n (fun i => ((tagsTo tk tv n).getD i ([], [])).1) (fun i => ((tagsTo tk tv n).getD i ([], [])).2) = 0 := by
    rw [← h]
    exact seriesC_congr (fun i hi => by rw [tagsTo_get tk tv hi]; exact ⟨rfl, rfl⟩)
  have hkind : kindF (keyL m f n tk tv) = (none, 0) := by
    unfold kindF
    rw [hp]
    simp only
    rw [tagsTo_len, hc]
  refine ⟨hkind, ?_⟩
  unfold serF
  rw [if_pos hkind, hp]
end Go.Proofs.YtnpagnghnohmdaaDoor
