/- No entry is ahead of its parent: up, down, mend, Put, Take, Turn keep it. -/
import Derived.Test.YtaolkcbbkanhbaaGreatDoorHpP
import Derived.ChangeMaps4
set_option linter.unusedSimpArgs false
set_option linter.unusedVariables false
namespace Go.Proofs.YtaolkcbbkanhbaaGreatDoor
def HeapOk (mo : Bool) (L : List Ent) : Prop := ∀ j, 0 < j → j < L.length → ahE mo (atE L j) (atE L ((j - 1) / 2)) = false
structure UpOk (mo : Bool) (L : List Ent) (i : Nat) : Prop where
  o : ∀ j, 0 < j → j < L.length → j ≠ i → ahE mo (atE L j) (atE L ((j - 1) / 2)) = false
  k : ∀ j, 0 < j → j < L.length → (j - 1) / 2 = i → 0 < i → ahE mo (atE L j) (atE L ((i - 1) / 2)) = false
theorem ah_flip {mo : Bool} {a b : Ent} (h : ahE mo a b = true) : ahE mo b a = false := by
  cases hb : ahE mo b a with
  | false => rfl
  | true => have := ahE_trans h hb; rw [ahE_irrefl] at this; cases this
theorem up_ok (mo : Bool) : ∀ (c : Nat) (L : List Ent) (i : Nat), i ≤ c → i < L.length → UpOk mo L i → HeapOk mo (upF mo c L i).1 := by
  intro c
  induction c with
  | zero =>
    intro L i hc hi h
    obtain rfl : i = 0 := by omega
    intro j hj hl
    exact h.o j hj hl (by omega)
  | succ c ih =>
    intro L i hc hi h
    simp only [upF]
    by_cases hg : (decide (0 < i) && ahE mo (atE L i) (atE L ((i - 1) / 2))) = true
    · rw [if_pos hg]
      simp only [Bool.and_eq_true, decide_eq_true_eq] at hg
      obtain ⟨h0, ha⟩ := hg
      have hp : (i - 1) / 2 < i := by omega
      generalize hpe : (i - 1) / 2 = p at *
      have sw := fun j => atE_sw (L := L) (i := i) (k := p) hi (by omega) j
      refine ih (swE L i p) p (by omega) (by rw [swE_len]; omega) ⟨fun j hj hl hne => ?_, fun j hj hl hpj h0p => ?_⟩
      · rw [swE_len] at hl
        rw [sw j, if_neg hne, sw ((j - 1) / 2)]
        by_cases hji : j = i
        · subst hji
          rw [if_pos rfl, hpe, if_pos rfl]
          exact ah_flip ha
        · rw [if_neg hji]
          by_cases h1 : (j - 1) / 2 = p
          · rw [if_pos h1]
            have h2 := h.o j hj hl hji
            rw [h1] at h2
            exact ahE_ntrans h2 (ah_flip ha)
          · rw [if_neg h1]
            by_cases h3 : (j - 1) / 2 = i
            · rw [if_pos h3]
              have h4 := h.k j hj hl h3 h0
              rw [hpe] at h4; exact h4
            · rw [if_neg h3]
              exact h.o j hj hl hji
      · rw [swE_len] at hl
        have hpp : (p - 1) / 2 ≠ p ∧ (p - 1) / 2 ≠ i := by omega
        rw [sw j, sw ((p - 1) / 2), if_neg hpp.1, if_neg hpp.2, if_neg (by omega)]
        have hop := h.o p h0p (by omega) (by omega)
        by_cases hji : j = i
        · rw [if_pos hji]; exact hop
        · rw [if_neg hji]
          have h2 := h.o j hj hl hji
          rw [hpj] at h2
          exact ahE_ntrans h2 hop
    · rw [if_neg hg]
      have hg' := Bool.eq_false_iff.2 hg
      intro j hj hl
      by_cases hji : j = i
      · subst hji
        simpa [hj] using hg'
      · exact h.o j hj hl hji
/-- from a place on, all is right but at one place and its kids -/
structure DownOk (mo : Bool) (L : List Ent) (c i : Nat) : Prop where
  o : ∀ j, 0 < j → j < L.length → c ≤ (j - 1) / 2 → (j - 1) / 2 ≠ i → ahE mo (atE L j) (atE L ((j - 1) / 2)) = false
  k : ∀ j, 0 < j → j < L.length → (j - 1) / 2 = i → 0 < i → c ≤ (i - 1) / 2 → ahE mo (atE L j) (atE L ((i - 1) / 2)) = false
def HeapFrom (mo : Bool) (L : List Ent) (c : Nat) : Prop := ∀ j, 0 < j → j < L.length → c ≤ (j - 1) / 2 → ahE mo (atE L j) (atE L ((j - 1) / 2)) = false
theorem down_ok (mo : Bool) (b : Nat) : ∀ (c : Nat) (L : List Ent) (i : Nat), L.length ≤ c + i → b ≤ i → DownOk mo L b i → HeapFrom mo (downF mo c L i).1 b := by
  intro c
  induction c with
  | zero =>
    intro L i hc hb h j hj hl hbj
    have hl' : j < L.length := hl
    exact h.o j hj hl' hbj (by omega)
  | succ c ih =>
    intro L i hc hb h
    have hkid := kidE_ge mo L i
    simp only [downF]
    by_cases hl : 2 * i + 1 < L.length
    · rw [if_pos hl]
      have hklt := kidE_lt (mo := mo) hl
      -- the kid is not behind its twin
      have htwin : ∀ j, 0 < j → j < L.length → (j - 1) / 2 = i → ahE mo (atE L j) (atE L (kidE mo L i)) = false := by
        intro j hj hjl hji
        have hj2 : j = 2 * i + 1 ∨ j = 2 * i + 2 := by omega
        unfold kidE
        by_cases hc2 : (decide (2 * i + 2 < L.length) && ahE mo (atE L (2 * i + 2)) (atE L (2 * i + 1))) = true
        · rw [if_pos hc2]
          simp only [Bool.and_eq_true, decide_eq_true_eq] at hc2
          rcases hj2 with rfl | rfl
          · exact ah_flip hc2.2
          · exact ahE_irrefl _ _
        · rw [if_neg hc2]
          have hc3 := Bool.eq_false_iff.2 hc2
          rcases hj2 with rfl | rfl
          · exact ahE_irrefl _ _
          · simpa [hjl] using hc3
      generalize hk : kidE mo L i = k at *
      by_cases ha : ahE mo (atE L k) (atE L i) = true
      · rw [if_pos ha]
        have sw := fun j => atE_sw (L := L) (i := i) (k := k) (by omega) hklt j
        refine ih (swE L i k) k (by rw [swE_len]; omega) (by omega) ⟨fun j hj hjl hbj hne => ?_, fun j hj hjl hpj h0 hbk => ?_⟩
        · rw [swE_len] at hjl
          rw [sw j, sw ((j - 1) / 2), if_neg hne]
          by_cases hjk : j = k
          · subst hjk
            rw [if_pos rfl, if_pos (by omega)]
            exact ah_flip ha
          · rw [if_neg hjk]
            by_cases hji : j = i
            · subst hji
              rw [if_pos rfl, if_neg (by omega)]
              exact h.k k (by omega) hklt (by omega) hj hbj
            · rw [if_neg hji]
              by_cases hpi : (j - 1) / 2 = i
              · rw [if_pos hpi]; exact htwin j hj hjl hpi
              · rw [if_neg hpi]; exact h.o j hj hjl hbj hpi
        · rw [swE_len] at hjl
          have e1 : (k - 1) / 2 = i := by omega
          rw [sw j, sw ((k - 1) / 2), e1, if_neg (by omega), if_pos rfl, if_neg (by omega), if_neg (by omega)]
          have h2 := h.o j hj hjl (by omega) (by omega)
          rw [hpj] at h2
          exact h2
      · rw [if_neg ha]
        have ha' := Bool.eq_false_iff.2 ha
        intro j hj hjl hbj
        by_cases hpi : (j - 1) / 2 = i
        · rw [hpi]; exact ahE_ntrans (htwin j hj hjl hpi) ha'
        · exact h.o j hj hjl hbj hpi
    · rw [if_neg hl]
      intro j hj hjl hbj
      have hl' : j < L.length := hjl
      exact h.o j hj hl' hbj (by omega)
theorem heapFrom_zero {mo : Bool} {L : List Ent} (h : HeapFrom mo L 0) : HeapOk mo L := fun j hj hl => h j hj hl (Nat.zero_le _)
theorem put_ok {mo : Bool} {L : List Ent} (h : HeapOk mo L) (e : Ent) : HeapOk mo (putH mo L e).1 := by
  have hat : ∀ j, j < L.length → atE (L ++ [e]) j = atE L j := fun j hj => by
    unfold atE; rw [List.getD_eq_getElem?_getD, List.getD_eq_getElem?_getD, List.getElem?_append_left hj]
  unfold putH upH
  refine up_ok mo _ _ _ (Nat.le_refl _) (by simp) ⟨fun j hj hl hne => ?_, fun j hj hl hp => ?_⟩
  · simp at hl
    rw [hat j (by omega), hat _ (by omega)]
    exact h j hj (by omega)
  · simp at hl; omega
theorem mend_ok {mo : Bool} {L : List Ent} (h : HeapOk mo L) (i : Nat) (x : Ent) (hi : i < L.length) : HeapOk mo (mendH mo (L.set i x) i).1 := by
  have hat : ∀ j, j ≠ i → atE (L.set i x) j = atE L j := fun j hj => by rw [atE_set, if_neg (fun e => hj e.1.symm)]
  have hx : atE (L.set i x) i = x := by rw [atE_set, if_pos ⟨rfl, hi⟩]
  unfold mendH
  by_cases hg : (decide (0 < i) && ahE mo x (atE L ((i - 1) / 2))) = true
  · simp only [Bool.and_eq_true, decide_eq_true_eq] at hg
    have hup : (upH mo (L.set i x) i).2 ≠ 0 := by
      rw [upH_eq, hx, hat ((i - 1) / 2) (by omega), if_pos (by simp [hg.1, hg.2])]
      simp
    rw [if_neg hup]
    unfold upH
    refine up_ok mo _ _ _ (Nat.le_refl _) (by simpa using hi) ⟨fun j hj hl hne => ?_, fun j hj hl hp h0 => ?_⟩
    · simp at hl
      rw [hat j hne]
      by_cases hpi : (j - 1) / 2 = i
      · rw [hpi, hx]
        have h1 := h j hj hl
        rw [hpi] at h1
        have h2 := h i hg.1 hi
        have h3 := ahE_ntrans h1 h2
        cases hc : ahE mo (atE L j) x with
        | false => rfl
        | true => rw [ahE_trans hc hg.2] at h3; cases h3
      · rw [hat _ hpi]; exact h j hj hl
    · simp at hl
      rw [hat j (by omega), hat _ (by omega)]
      have h1 := h j hj hl
      rw [hp] at h1
      exact ahE_ntrans h1 (h i h0 hi)
  · have hg' := Bool.eq_false_iff.2 hg
    have hup : upH mo (L.set i x) i = (L.set i x, 0) := by
      rw [upH_eq, hx]
      by_cases h0 : 0 < i
      · rw [hat ((i - 1) / 2) (by omega), hg']; rfl
      · simp [h0]
    rw [hup, if_pos rfl]
    refine heapFrom_zero ?_
    unfold downH
    refine down_ok mo 0 _ _ _ (by simp) (Nat.zero_le _) ⟨fun j hj hl _ hne => ?_, fun j hj hl hp h0 _ => ?_⟩
    · simp at hl
      rw [hat _ hne]
      by_cases hji : j = i
      · subst hji
        rw [hx]
        simpa [hj] using hg'
      · rw [hat j hji]; exact h j hj hl
    · simp at hl
      rw [hat j (by omega), hat _ (by omega)]
      have h1 := h j hj hl
      rw [hp] at h1
      exact ahE_ntrans h1 (h i h0 hi)
theorem atE_dropLast {L : List Ent} {i : Nat} (h : i < L.length - 1) : atE L.dropLast i = atE L i := by
  unfold atE
  rw [List.getD_eq_getElem?_getD, List.getD_eq_getElem?_getD, List.getElem?_dropLast, if_pos h]
theorem drop_ok {mo : Bool} {L : List Ent} (h : HeapOk mo L) : HeapOk mo L.dropLast := fun j hj hl => by
  simp at hl
  rw [atE_dropLast hl, atE_dropLast (by omega)]
  exact h j hj (by omega)
theorem take_ok {mo : Bool} {L : List Ent} (h : HeapOk mo L) (i : Nat) : HeapOk mo (takeH mo L i).1 := by
  unfold takeH
  by_cases hi : i < L.length - 1
  · rw [if_pos hi]; exact mend_ok (drop_ok h) i _ (by simpa using hi)
  · rw [if_neg hi]; exact drop_ok h
theorem turn_ok {mo : Bool} {L : List Ent} (h : HeapOk mo L) (i : Nat) (r : Int) (hi : i < L.length) : HeapOk mo (turnH mo L i r).1 := mend_ok h i _ hi
theorem top_least {mo : Bool} {L : List Ent} (h : HeapOk mo L) : ∀ j, j < L.length → ahE mo (atE L j) (atE L 0) = false := by
  intro j
  induction j using Nat.strongRecOn with
  | _ j ih =>
    intro hj
    by_cases h0 : j = 0
    · subst h0; exact ahE_irrefl _ _
    · exact ahE_ntrans (h j (by omega) hj) (ih ((j - 1) / 2) (by omega) (by omega))
theorem nil_ok (mo : Bool) : HeapOk mo [] := fun j _ hl => by simp at hl
/-- what is in, behind a change -/
theorem put_perm (mo : Bool) (L : List Ent) (e : Ent) : (putH mo L e).1.Perm (e :: L) := by
  unfold putH
  exact (upH_perm _ _ _ (by simp)).trans (List.perm_append_singleton e L)
theorem take_perm (mo : Bool) (L : List Ent) (i : Nat) (hi : i < L.length) : (atE L i :: (takeH mo L i).1).Perm L := by
  have hL : L = L.dropLast ++ [atE L (L.length - 1)] := by
    have hne : L ≠ [] := by intro e; rw [e] at hi; simp at hi
    conv => lhs; rw [← List.dropLast_concat_getLast hne]
    congr 2
    unfold atE
    rw [List.getLast_eq_getElem, List.getD_eq_getElem?_getD, List.getElem?_eq_getElem (by omega)]; rfl
  unfold takeH
  by_cases h : i < L.length - 1
  · rw [if_pos h]
    refine (List.Perm.cons _ (mendH_perm _ _ _ (by simpa using h))).trans ?_
    have hd : i < L.dropLast.length := by simpa using h
    have e1 : atE L i = L.dropLast[i] := by
      rw [← atE_dropLast h]; unfold atE; rw [List.getD_eq_getElem?_getD, List.getElem?_eq_getElem hd]; rfl
    rw [e1]
    generalize hla : atE L (L.length - 1) = la at *
    conv => rhs; rw [hL]
    refine List.Perm.trans ?_ (List.perm_append_singleton la L.dropLast).symm
    have h2 : (L.dropLast.set i la).Perm (la :: L.dropLast.eraseIdx i) := by
      exact Go.ChangeMaps.set_perm _ _ hd la
    have h3 : L.dropLast.Perm (L.dropLast[i] :: L.dropLast.eraseIdx i) := by
      have := Go.ChangeMaps.set_perm L.dropLast i hd L.dropLast[i]
      rwa [List.set_getElem_self] at this
    exact (List.Perm.cons _ h2).trans ((List.Perm.swap _ _ _).trans (List.Perm.cons _ h3.symm))
  · rw [if_neg h]
    obtain rfl : i = L.length - 1 := by omega
    conv => rhs; rw [hL]
    exact (List.perm_append_singleton _ _).symm
end Go.Proofs.YtaolkcbbkanhbaaGreatDoor
