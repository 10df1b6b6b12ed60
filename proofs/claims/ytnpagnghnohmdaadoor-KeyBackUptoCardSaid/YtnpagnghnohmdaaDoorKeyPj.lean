/- Plain law: what is read of a key is written so. -/
import Derived.Test.YtnpagnghnohmdaaDoorKeyPi
set_option linter.unusedSimpArgs false
set_option linter.unusedVariables false
namespace Go.Proofs.YtnpagnghnohmdaaDoor
open Go.RowKit
theorem unR_back {l : List UInt8} : ∀ (f i : Nat) (o : List UInt8), i ≤ l.length → l.take i = escL o → ∀ (n : Nat) (o' : List UInt8), unR l f i o = (true, n, o') → n ≤ l.length ∧ l.take n = escL o'
  | 0, i, o, hi, ht, n, o', h => by
    simp only [unR, Prod.mk.injEq, true_and] at h
    obtain ⟨rfl, rfl⟩ := h
    exact ⟨hi, ht⟩
  | f + 1, i, o, hi, ht, n, o', h => by
    unfold unR at h
    split at h
    · rename_i hc
      split at h
      · rename_i h92
        split at h
        · rename_i hc2
          refine unR_back f (i + 2) _ (by omega) ?_ n o' h
          rw [show i + 2 = i + 1 + 1 by omega, take_one hc2.1, take_one hc.1, ht, h92, escL_snoc, hc2.2]
          simp
        · simp at h
      · rename_i h92
        have hs : specB (l.getD i 0) = false := by rcases hc.2 with h2 | h2; exact absurd h2 h92; exact h2
        refine unR_back f (i + 1) _ (by omega) ?_ n o' h
        rw [take_one hc.1, ht, escL_snoc, hs]
        simp
    · simp only [Prod.mk.injEq, true_and] at h
      obtain ⟨rfl, rfl⟩ := h
      exact ⟨hi, ht⟩
theorem pc_back {l t : List UInt8} {k k' : Nat} (hk : k ≤ l.length) (h : pcR l k none = (t, k', none)) : k ≤ k' ∧ k' ≤ l.length ∧ l.take k' = l.take k ++ escL t := by
  unfold pcR at h
  have hb := unR_back (l := l.drop k) (l.drop k).length 0 [] (by omega) (by simp [escL])
  obtain ⟨Z, hZ⟩ : ∃ Z, unL (l.drop k) = Z := ⟨_, rfl⟩
  have hZ' : unR (l.drop k) (l.drop k).length 0 [] = Z := hZ
  rw [hZ] at h
  obtain ⟨ok, n, o⟩ := Z
  cases ok
  · simp at h
  · simp only [Prod.mk.injEq, and_true] at h
    obtain ⟨rfl, rfl⟩ := h
    obtain ⟨h1, h2⟩ := hb n o hZ'
    rw [List.length_drop] at h1
    exact ⟨by omega, by omega, by rw [List.take_add, h2]⟩
theorem is_back {l : List UInt8} {k : Nat} {c : UInt8} (h : isR l k none c = true) : k < l.length ∧ l.take (k + 1) = l.take k ++ [c] := by
  obtain ⟨_, h1, h2⟩ := isR_lt h
  exact ⟨h1, by rw [take_one h1, h2]⟩
theorem tag_back {l : List UInt8} {k : Nat} (hi : isR l k none 44 = true) (h : (tagF l k).1 = none) : (tagF l k).2.1 ≤ l.length ∧ l.take (tagF l k).2.1 = l.take k ++ tagT (tagF l k).2.2 := by
  obtain ⟨h0, t0⟩ := is_back hi
  obtain ⟨A, hA⟩ : ∃ A, pcR l (k + 1) none = A := ⟨_, rfl⟩
  obtain ⟨a, ak, ae⟩ := A
  unfold tagF at h ⊢
  rw [hA] at h ⊢
  cases ae with
  | some p => simp at h
  | none =>
    obtain ⟨_, a1, a2⟩ := pc_back (by omega) hA
    simp only at h ⊢
    by_cases hs : isR l ak none 61 = true
    · rw [if_pos hs] at h ⊢
      obtain ⟨b0, b1⟩ := is_back hs
      obtain ⟨C, hC⟩ : ∃ C, pcR l (ak + 1) none = C := ⟨_, rfl⟩
      obtain ⟨c, ck, ce⟩ := C
      rw [hC] at h ⊢
      cases ce with
      | some p => simp at h
      | none =>
        obtain ⟨_, c1, c2⟩ := pc_back (by omega) hC
        simp only
        refine ⟨c1, ?_⟩
        rw [c2, b1, a2, t0]
        simp [tagT]
    · rw [if_neg hs] at h
      simp at h
theorem lp_back {l : List UInt8} : ∀ (f : Nat) (e : Option Nat) (k : Nat) (ts : List (List UInt8 × List UInt8)), k ≤ l.length → ∀ (k' : Nat) (ts' : List (List UInt8 × List UInt8)), lpF l f e k ts = (none, k', ts') → k' ≤ l.length ∧ ∃ us, ts' = ts ++ us ∧ l.take k' = l.take k ++ us.flatMap tagT
  | 0, e, k, ts, hk, k', ts', h => by
    simp only [lpF, Prod.mk.injEq] at h
    obtain ⟨_, rfl, rfl⟩ := h
    exact ⟨hk, [], by simp, by simp⟩
  | f + 1, e, k, ts, hk, k', ts', h => by
    unfold lpF at h
    split at h
    · rename_i hi
      obtain ⟨rfl, _, _⟩ := isR_lt hi
      cases ht : (tagF l k).1 with
      | some p =>
        rw [ht, lpF_stop rfl] at h
        simp at h
      | none =>
        obtain ⟨t1, t2⟩ := tag_back hi ht
        obtain ⟨h1, us, h2, h3⟩ := lp_back f _ _ _ t1 k' ts' h
        refine ⟨h1, (tagF l k).2.2 :: us, by rw [h2]; simp, ?_⟩
        rw [h3, t2]
        simp
    · simp only [Prod.mk.injEq] at h
      obtain ⟨_, rfl, rfl⟩ := h
      exact ⟨hk, [], by simp, by simp⟩
theorem end_back {l f : List UInt8} {k : Nat} {e : Option Nat} (hk : k ≤ l.length) (h : endF l k e = (none, f)) : e = none ∧ l = l.take k ++ [32] ++ escL f := by
  cases e with
  | some p => simp [endF] at h
  | none =>
    refine ⟨rfl, ?_⟩
    unfold endF at h
    simp only at h
    by_cases hs : isR l k none 32 = true
    · rw [if_pos hs] at h
      obtain ⟨b0, b1⟩ := is_back hs
      obtain ⟨C, hC⟩ : ∃ C, pcR l (k + 1) none = C := ⟨_, rfl⟩
      obtain ⟨c, ck, ce⟩ := C
      rw [hC] at h
      cases ce with
      | some p => simp at h
      | none =>
        obtain ⟨_, c1, c2⟩ := pc_back (by omega) hC
        simp only at h
        by_cases hl : ck < l.length
        · rw [if_pos hl] at h; simp at h
        · rw [if_neg hl] at h
          simp only [Prod.mk.injEq, true_and] at h
          subst h
          have : ck = l.length := by omega
          subst this
          rw [List.take_length, b1] at c2
          exact c2
    · rw [if_neg hs] at h
      simp at h
theorem par_back {l m f : List UInt8} {ts : List (List UInt8 × List UInt8)} (h : parF l = (none, m, ts, f)) : l = escL m ++ ts.flatMap tagT ++ [32] ++ escL f := by
  unfold parF at h
  simp only [Prod.mk.injEq] at h
  obtain ⟨h1, h2, h3, h4⟩ := h
  obtain ⟨A, hA⟩ : ∃ A, pcR l 0 none = A := ⟨_, rfl⟩
  obtain ⟨Z, hZ⟩ : ∃ Z, lpF l l.length (pcR l 0 none).2.2 (pcR l 0 none).2.1 [] = Z := ⟨_, rfl⟩
  rw [hZ] at h1 h3 h4
  rw [hA] at h2 hZ
  obtain ⟨a, ak, ae⟩ := A
  obtain ⟨ze, zk, zt⟩ := Z
  simp only at h1 h2 h3 h4 hZ
  subst h2 h3
  have hak := (pcR_le l 0 none (by omega)).2.1
  rw [hA] at hak
  have hze : ze = none := by
    cases ze with
    | none => rfl
    | some p => simp [endF] at h1
  subst hze
  cases ae with
  | some p =>
    rw [lpF_stop rfl] at hZ
    simp at hZ
  | none =>
    obtain ⟨_, a1, a2⟩ := pc_back (by omega) hA
    obtain ⟨z1, us, z2, z3⟩ := lp_back _ _ _ _ hak _ _ hZ
    have he : endF l zk none = (none, f) := Prod.ext h1 h4
    simp only at z3
    obtain ⟨_, e2⟩ := end_back z1 he
    rw [List.nil_append] at z2
    subst z2
    have a3 : l.take ak = escL a := by simpa using a2
    rw [z3, a3] at e2
    exact e2
theorem partP_list (m : List UInt8) (ts : List (List UInt8 × List UInt8)) : ∀ k, k ≤ ts.length → partP m (fun i => (ts.getD i ([], [])).1) (fun i => (ts.getD i ([], [])).2) k = escL m ++ (ts.take k).flatMap tagT
  | 0, _ => by simp [partP]
  | k + 1, h => by
    unfold partP
    rw [partP_list m ts k (by omega), List.take_succ_eq_append_getElem (by omega), List.flatMap_append]
    simp [tagT, List.getD_eq_getElem?_getD, List.getElem?_eq_getElem (show k < ts.length by omega)]
/-- what is read is written so -/
theorem key_forth {s : List UInt8} (h : kindF s = (none, 0)) : seriesC (serF s).1 (serF s).2.2 (serF s).2.1.length (fun i => ((serF s).2.1.getD i ([], [])).1) (fun i => ((serF s).2.1.getD i ([], [])).2) = 0 ∧
    keyL (serF s).1 (serF s).2.2 (serF s).2.1.length (fun i => ((serF s).2.1.getD i ([], [])).1) (fun i => ((serF s).2.1.getD i ([], [])).2) = s := by
  have hs : serF s = (parF s).2 := by unfold serF; rw [if_pos h]
  rw [hs]
  obtain ⟨P, hP⟩ : ∃ P, parF s = P := ⟨_, rfl⟩
  obtain ⟨e, m, ts, f⟩ := P
  unfold kindF at h
  rw [hP] at h ⊢
  cases e with
  | some p => simp at h
  | none =>
    simp only [Prod.mk.injEq, true_and] at h
    simp only
    refine ⟨h, ?_⟩
    unfold keyL
    rw [if_pos h, partP_list m ts ts.length (Nat.le_refl _), List.take_length]
    exact (par_back hP).symm
end Go.Proofs.YtnpagnghnohmdaaDoor
