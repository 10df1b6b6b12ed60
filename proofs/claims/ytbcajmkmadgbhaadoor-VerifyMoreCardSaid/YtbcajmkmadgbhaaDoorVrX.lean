/- Verify, plain: a program that passes passes with more in its lists. -/
import Derived.Test.YtbcajmkmadgbhaaDoorVrT
set_option linter.unusedVariables false
namespace Go.Proofs.YtbcajmkmadgbhaaDoor
/-- more in its lists -/
def moreD (D : PrgD) (n : Int) (nm : List (List UInt8)) : PrgD := { D with times := D.times ++ [n], ints := D.ints ++ [n], accs := D.accs ++ [(7, [119])], texts := D.texts ++ [[]], names := D.names ++ nm }
theorem inB_mono {a : Int} {n m : Nat} (h : inB a n = true) (hm : n ≤ m) : inB a m = true := by
  unfold inB at h ⊢
  simp only [Bool.and_eq_true, decide_eq_true_eq] at h ⊢
  omega
theorem accAt_more {D : PrgD} {n : Int} {nm : List (List UInt8)} {a : Int} (h : inB a D.accs.length = true) : accAt (moreD D n nm) a = accAt D a := by
  unfold inB at h
  simp only [Bool.and_eq_true, decide_eq_true_eq] at h
  unfold accAt moreD
  rw [List.getD_eq_getElem?_getD, List.getD_eq_getElem?_getD, List.getElem?_append_left (by omega)]
theorem opsB_more {D : PrgD} {n : Int} {nm : List (List UInt8)} {i : InsD} (h : opsB D i = true) : opsB (moreD D n nm) i = true := by
  have l1 : D.names.length ≤ (moreD D n nm).names.length := by unfold moreD; simp
  have l2 : D.texts.length ≤ (moreD D n nm).texts.length := by unfold moreD; simp
  have l4 : D.times.length ≤ (moreD D n nm).times.length := by unfold moreD; simp
  have l5 : D.accs.length ≤ (moreD D n nm).accs.length := by unfold moreD; simp
  have l6 : D.ints.length ≤ (moreD D n nm).ints.length := by unfold moreD; simp
  unfold opsB at h ⊢
  by_cases c3 : i.c = 3
  · rw [if_pos c3] at h ⊢
    simp only [Bool.and_eq_true] at h ⊢
    exact ⟨inB_mono h.1 l1, inB_mono h.2 l2⟩
  rw [if_neg c3] at h ⊢
  by_cases c4 : i.c = 4
  · rw [if_pos c4] at h ⊢
    simp only [Bool.and_eq_true] at h ⊢
    exact ⟨inB_mono h.1 l1, h.2⟩
  rw [if_neg c4] at h ⊢
  by_cases c5 : i.c = 5
  · rw [if_pos c5] at h ⊢
    simp only [Bool.and_eq_true] at h ⊢
    exact ⟨inB_mono h.1 l1, inB_mono h.2 l1⟩
  rw [if_neg c5] at h ⊢
  by_cases c6 : i.c = 6
  · rw [if_pos c6] at h ⊢
    simp only [Bool.and_eq_true] at h ⊢
    exact ⟨h.1, inB_mono h.2 l4⟩
  rw [if_neg c6] at h ⊢
  by_cases c10 : i.c = 10 ∨ i.c = 11
  · rw [if_pos c10] at h ⊢
    exact h
  rw [if_neg c10] at h ⊢
  by_cases c14 : i.c = 14
  · rw [if_pos c14] at h ⊢
    simp only [Bool.and_eq_true] at h ⊢
    exact ⟨inB_mono h.1 l5, h.2⟩
  rw [if_neg c14] at h ⊢
  by_cases c15 : i.c = 15
  · rw [if_pos c15] at h ⊢
    simp only [Bool.and_eq_true] at h ⊢
    exact ⟨inB_mono h.1 l6, h.2⟩
  rw [if_neg c15] at h ⊢
  by_cases c16 : i.c = 16
  · rw [if_pos c16] at h ⊢
    simp only [Bool.and_eq_true] at h ⊢
    obtain ⟨⟨⟨⟨h1, h2⟩, h3⟩, h4⟩, h5⟩ := h
    rw [accAt_more h1, accAt_more h2]
    exact ⟨⟨⟨⟨inB_mono h1 l5, inB_mono h2 l5⟩, h3⟩, h4⟩, h5⟩
  rw [if_neg c16] at h ⊢
  exact h
theorem errC_more {fi : Bool} {D : PrgD} {n : Int} {nm : List (List UInt8)} {m k : Nat} {i : InsD} (h : errC fi D m k i = 0) : errC fi (moreD D n nm) m k i = 0 := by
  have h1 := (errC_zero h).2.1
  have h2 := opsB_more (n := n) (nm := nm) h1
  unfold errC at h ⊢
  rw [h1] at h
  rw [h2]
  exact h
theorem formL_more {fi : Bool} {D : PrgD} {n : Int} {nm : List (List UInt8)} {m : Nat} : ∀ (L : List InsD) (k : Nat), formL fi D m L k = none → formL fi (moreD D n nm) m L k = none
  | [], k, _ => rfl
  | i :: r, k, h => by
    unfold formL at h ⊢
    split at h
    · rename_i he
      rw [if_pos (errC_more he)]
      exact formL_more r (k + 1) h
    · cases h
theorem formF_more {fi : Bool} {D : PrgD} {n : Int} {nm : List (List UInt8)} {L : List InsD} (h : formF fi D L = none) : formF fi (moreD D n nm) L = none := by
  unfold formF at h ⊢
  split at h
  · cases h
  · rename_i he
    rw [formL_more L 0 he]
    exact h
theorem head_more {D : PrgD} {n : Int} {nm : List (List UInt8)} (h : HeadP D) (hn : nm.all wordB = true) (hw : wordB [119] = true) : HeadP (moreD D n nm) := by
  refine ⟨h.from_, h.into, h.e1, h.e2, h.o1, h.o2, h.groups, h.gwords, ?_, ?_, ?_, h.aliases, h.twice, h.lists, h.a1, h.a2, h.fi, h.ou⟩
  · show (D.names ++ nm).all wordB = true
    rw [List.all_append, h.names, hn]; rfl
  · show (D.texts ++ [[]]).all blankB = true
    rw [List.all_append, h.texts]; rfl
  · show (D.accs ++ [(7, [119])]).all accB = true
    rw [List.all_append, h.accs]
    simp [accB, hw]
theorem ver_more {D : PrgD} {n : Int} {nm : List (List UInt8)} (h : verF D = none) (hn : nm.all wordB = true) : verF (moreD D n nm) = none := by
  obtain ⟨hp, h1, h2, ⟨l1, h3⟩, ⟨l2, h4⟩, he⟩ := verF_none h
  have hw : wordB [119] = true := by unfold wordB rightB; rw [goodAsc _ (by decide)]; rfl
  exact (verF_emit ((headB_iff _).2 (head_more hp hn hw)) (formF_more h1) (formF_more h2) h3 h4).1 he
/-- the program that asks of a name -/
def nameD (name : List UInt8) : PrgD := ⟨[99, 112, 117], [], 1, 0, [], [], [[109]], [name], [], [], [], [1], [⟨1, 0, 0⟩, ⟨13, 0, 0⟩], [⟨15, 0, 0⟩, ⟨23, 0, 0⟩, ⟨24, 0, 0⟩]⟩
theorem head_name {name : List UInt8} : headB (nameD name) = wordB name := by
  have g1 : rightB [99, 112, 117] 64 = true := by unfold rightB; rw [goodAsc _ (by decide)]; rfl
  have g4 : wordB [109] = true := by unfold wordB rightB; rw [goodAsc _ (by decide)]; rfl
  unfold headB nameD
  simp [g1, g4, aliF]
theorem ver_name {name : List UInt8} : verF (nameD name) = if wordB name then none else some (192, none) := by
  cases hw : wordB name with
  | false => exact verF_head (by rw [head_name]; exact hw)
  | true =>
    have h0 : headB (nameD name) = true := by rw [head_name]; exact hw
    have h1 : formF true (nameD name) (nameD name).filter = none := by rfl
    have h2 : formF false (nameD name) (nameD name).output = none := by rfl
    have h3 : heiF (nameD name).filter 0 hs0 = .inr [0, 1] := by rfl
    have h4 : heiF (nameD name).output 0 hs0 = .inr [0, 1, 0] := by rfl
    refine (verF_emit h0 h1 h2 h3 h4).1 ((emitB_iff _).1 ?_)
    rfl
end Go.Proofs.YtbcajmkmadgbhaaDoor
