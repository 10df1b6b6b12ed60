/- The heap in plain lists: up, down, mend, Put, Take, Turn, Build; how many moves these make. -/
import Derived.Sort.Walk0
import Derived.WalkKit
set_option linter.unusedSimpArgs false
set_option linter.unusedVariables false
namespace Go.Proofs.YtaolkcbbkanhbaaGreatDoor
/-- an entry: its rank and its name -/
abbrev Ent := Int × List UInt8
def ltE (a b : Ent) : Bool := decide (a.1 < b.1) || (decide (a.1 = b.1) && Op.bytesLess a.2 b.2)
/-- is an entry ahead of another? -/
def ahE (mo : Bool) (a b : Ent) : Bool := if mo then ltE b a else ltE a b
/-- the entry at a place -/
def atE (L : List Ent) (i : Nat) : Ent := L.getD i (0, [])
def swE (L : List Ent) (i k : Nat) : List Ent := (L.set i (atE L k)).set k (atE L i)
theorem swE_len (L : List Ent) (i k : Nat) : (swE L i k).length = L.length := by simp [swE]
/-- up from a place: how entries lie behind it, and how many moves it took -/
def upF (mo : Bool) : Nat → List Ent → Nat → List Ent × Nat
  | 0, L, _ => (L, 0)
  | c + 1, L, i => if decide (0 < i) && ahE mo (atE L i) (atE L ((i - 1) / 2)) then ((upF mo c (swE L i ((i - 1) / 2)) ((i - 1) / 2)).1, (upF mo c (swE L i ((i - 1) / 2)) ((i - 1) / 2)).2 + 1) else (L, 0)
def upH (mo : Bool) (L : List Ent) (i : Nat) : List Ent × Nat := upF mo i L i
theorem upF_fuel (mo : Bool) : ∀ (c d : Nat) (L : List Ent) (i : Nat), i ≤ c → i ≤ d → upF mo c L i = upF mo d L i := by
  intro c
  induction c with
  | zero =>
    intro d L i hc hd
    obtain rfl : i = 0 := by omega
    cases d <;> simp [upF]
  | succ c ih =>
    intro d L i hc hd
    cases d with
    | zero => obtain rfl : i = 0 := by omega
              simp [upF]
    | succ d =>
      simp only [upF]
      by_cases h : 0 < i
      · rw [ih d _ ((i - 1) / 2) (by omega) (by omega)]
      · simp [h]
theorem upH_eq (mo : Bool) (L : List Ent) (i : Nat) : upH mo L i = if decide (0 < i) && ahE mo (atE L i) (atE L ((i - 1) / 2)) then ((upH mo (swE L i ((i - 1) / 2)) ((i - 1) / 2)).1, (upH mo (swE L i ((i - 1) / 2)) ((i - 1) / 2)).2 + 1) else (L, 0) := by
  unfold upH
  cases i with
  | zero => simp [upF]
  | succ i => simp only [upF]; rw [upF_fuel mo i ((i + 1 - 1) / 2) _ ((i + 1 - 1) / 2) (by omega) (by omega)]
/-- the kid that is ahead of the other -/
def kidE (mo : Bool) (L : List Ent) (i : Nat) : Nat := if decide (2 * i + 2 < L.length) && ahE mo (atE L (2 * i + 2)) (atE L (2 * i + 1)) then 2 * i + 2 else 2 * i + 1
theorem kidE_ge (mo : Bool) (L : List Ent) (i : Nat) : 2 * i + 1 ≤ kidE mo L i ∧ kidE mo L i ≤ 2 * i + 2 := by unfold kidE; split <;> omega
theorem kidE_lt {mo : Bool} {L : List Ent} {i : Nat} (h : 2 * i + 1 < L.length) : kidE mo L i < L.length := by
  unfold kidE
  split
  · rename_i h'
    simp only [Bool.and_eq_true, decide_eq_true_eq] at h'
    exact h'.1
  · exact h
/-- down from a place -/
def downF (mo : Bool) : Nat → List Ent → Nat → List Ent × Nat
  | 0, L, _ => (L, 0)
  | c + 1, L, i => if 2 * i + 1 < L.length then (if ahE mo (atE L (kidE mo L i)) (atE L i) then ((downF mo c (swE L i (kidE mo L i)) (kidE mo L i)).1, (downF mo c (swE L i (kidE mo L i)) (kidE mo L i)).2 + 1) else (L, 0)) else (L, 0)
def downH (mo : Bool) (L : List Ent) (i : Nat) : List Ent × Nat := downF mo L.length L i
theorem downF_fuel (mo : Bool) : ∀ (c d : Nat) (L : List Ent) (i : Nat), L.length ≤ c + i → L.length ≤ d + i → downF mo c L i = downF mo d L i := by
  intro c
  induction c with
  | zero =>
    intro d L i hc hd
    cases d with
    | zero => rfl
    | succ d => simp only [downF]; rw [if_neg (by omega)]
  | succ c ih =>
    intro d L i hc hd
    have hk := kidE_ge mo L i
    cases d with
    | zero => simp only [downF]; rw [if_neg (by omega)]
    | succ d =>
      simp only [downF]
      rw [ih d (swE L i (kidE mo L i)) (kidE mo L i) (by rw [swE_len]; omega) (by rw [swE_len]; omega)]
theorem downH_eq (mo : Bool) (L : List Ent) (i : Nat) : downH mo L i = if 2 * i + 1 < L.length then (if ahE mo (atE L (kidE mo L i)) (atE L i) then ((downH mo (swE L i (kidE mo L i)) (kidE mo L i)).1, (downH mo (swE L i (kidE mo L i)) (kidE mo L i)).2 + 1) else (L, 0)) else (L, 0) := by
  unfold downH
  rw [swE_len]
  have hk := kidE_ge mo L i
  rw [downF_fuel mo L.length (L.length + 1) L i (by omega) (by omega)]
  simp only [downF]
def mendH (mo : Bool) (L : List Ent) (i : Nat) : List Ent × Nat := if (upH mo L i).2 = 0 then downH mo (upH mo L i).1 i else upH mo L i
def putH (mo : Bool) (L : List Ent) (e : Ent) : List Ent × Nat := upH mo (L ++ [e]) L.length
def takeH (mo : Bool) (L : List Ent) (i : Nat) : List Ent × Nat := if i < L.length - 1 then mendH mo (L.dropLast.set i (atE L (L.length - 1))) i else (L.dropLast, 0)
def turnH (mo : Bool) (L : List Ent) (i : Nat) (r : Int) : List Ent × Nat := mendH mo (L.set i (r, (atE L i).2)) i
def bldF (mo : Bool) : Nat → List Ent × Nat → List Ent × Nat
  | 0, s => s
  | c + 1, s => bldF mo c ((downH mo s.1 c).1, s.2 + (downH mo s.1 c).2)
def bldH (mo : Bool) (L : List Ent) : List Ent × Nat := bldF mo (L.length / 2) (L, 0)
/-- the place of a name -/
def findE : List Ent → List UInt8 → Option Nat
  | [], _ => none
  | e :: r, s => if e.2 == s then some 0 else (findE r s).map (· + 1)
/-- no name stands twice -/
def NoTwice (L : List Ent) : Prop := L.Pairwise (fun a b => a.2 ≠ b.2)
theorem findE_some {L : List Ent} {s : List UInt8} {i : Nat} (h : findE L s = some i) : i < L.length ∧ (atE L i).2 = s := by
  induction L generalizing i with
  | nil => cases h
  | cons e r ih =>
    simp only [findE] at h
    split at h
    · rename_i he
      obtain rfl := (Option.some.inj h).symm
      exact ⟨by simp, by simpa [atE] using he⟩
    · cases hr : findE r s with
      | none => rw [hr] at h; cases h
      | some j =>
        rw [hr] at h
        obtain rfl : j + 1 = i := by simpa using h
        have := ih hr
        exact ⟨by simp; omega, by simpa [atE] using this.2⟩
theorem findE_none {L : List Ent} {s : List UInt8} (h : findE L s = none) : ∀ e ∈ L, e.2 ≠ s := by
  induction L with
  | nil => intro e he; cases he
  | cons e r ih =>
    simp only [findE] at h
    split at h
    · cases h
    · rename_i hne
      have hr : findE r s = none := by cases hr : findE r s with
        | none => rfl
        | some j => rw [hr] at h; cases h
      intro x hx
      rcases List.mem_cons.1 hx with rfl | hx
      · simpa using hne
      · exact ih hr x hx
theorem atE_mem {L : List Ent} {i : Nat} (h : i < L.length) : atE L i ∈ L := by
  unfold atE; rw [List.getD_eq_getElem?_getD, List.getElem?_eq_getElem h]; exact List.getElem_mem _
theorem noTwice_at {L : List Ent} (h : NoTwice L) {i k : Nat} (hi : i < L.length) (hk : k < L.length) (e : (atE L i).2 = (atE L k).2) : i = k := by
  have hp := List.pairwise_iff_getElem.1 h
  have gi : atE L i = L[i] := by unfold atE; rw [List.getD_eq_getElem?_getD, List.getElem?_eq_getElem hi]; rfl
  have gk : atE L k = L[k] := by unfold atE; rw [List.getD_eq_getElem?_getD, List.getElem?_eq_getElem hk]; rfl
  rw [gi, gk] at e
  rcases Nat.lt_trichotomy i k with h' | h' | h'
  · exact absurd e (hp i k hi hk h')
  · exact h'
  · exact absurd e.symm (hp k i hk hi h')
theorem findE_at {L : List Ent} (h : NoTwice L) {i : Nat} (hi : i < L.length) : findE L (atE L i).2 = some i := by
  cases hf : findE L (atE L i).2 with
  | none => exact absurd rfl (findE_none hf _ (atE_mem hi))
  | some j =>
    have := findE_some hf
    rw [noTwice_at h this.1 hi this.2]
theorem findE_iff {L : List Ent} (h : NoTwice L) (s : List UInt8) (i : Nat) : findE L s = some i ↔ i < L.length ∧ (atE L i).2 = s :=
  ⟨findE_some, fun ⟨a, b⟩ => by rw [← b]; exact findE_at h a⟩
theorem atE_set {L : List Ent} (i : Nat) (e : Ent) (k : Nat) : atE (L.set i e) k = if i = k ∧ i < L.length then e else atE L k := by
  unfold atE
  rw [List.getD_eq_getElem?_getD, List.getD_eq_getElem?_getD, List.getElem?_set]
  by_cases h : i = k
  · subst h
    by_cases h2 : i < L.length
    · simp [h2]
    · simp [h2]
  · simp [h]
theorem atE_sw {L : List Ent} {i k : Nat} (hi : i < L.length) (hk : k < L.length) (j : Nat) : atE (swE L i k) j = if j = k then atE L i else if j = i then atE L k else atE L j := by
  unfold swE
  rw [atE_set, atE_set]
  simp only [List.length_set]
  by_cases h1 : j = k
  · subst h1; simp [hk]
  · by_cases h2 : j = i
    · subst h2; simp [h1, hi, Ne.symm h1]
    · simp [h1, h2, Ne.symm h1, Ne.symm h2]
/-- entries change places: no more than that -/
theorem swE_perm {L : List Ent} {i k : Nat} (hi : i < L.length) (hk : k < L.length) : (swE L i k).Perm L := by
  unfold swE
  have e1 : atE L k = L[k] := by unfold atE; rw [List.getD_eq_getElem?_getD, List.getElem?_eq_getElem hk]; rfl
  have e2 : atE L i = L[i] := by unfold atE; rw [List.getD_eq_getElem?_getD, List.getElem?_eq_getElem hi]; rfl
  rw [e1, e2]
  exact List.set_set_perm hi hk
theorem upF_len (mo : Bool) : ∀ (c : Nat) (L : List Ent) (i : Nat), (upF mo c L i).1.length = L.length := by
  intro c
  induction c with
  | zero => intro L i; rfl
  | succ c ih => intro L i; simp only [upF]; split <;> simp [ih, swE_len]
theorem downF_len (mo : Bool) : ∀ (c : Nat) (L : List Ent) (i : Nat), (downF mo c L i).1.length = L.length := by
  intro c
  induction c with
  | zero => intro L i; rfl
  | succ c ih =>
    intro L i
    simp only [downF]
    by_cases h : 2 * i + 1 < L.length
    · rw [if_pos h]
      by_cases h2 : ahE mo (atE L (kidE mo L i)) (atE L i) = true
      · rw [if_pos h2]; simp [ih, swE_len]
      · rw [if_neg h2]
    · rw [if_neg h]
theorem upF_perm (mo : Bool) : ∀ (c : Nat) (L : List Ent) (i : Nat), i < L.length → (upF mo c L i).1.Perm L := by
  intro c
  induction c with
  | zero => intro L i _; exact List.Perm.refl _
  | succ c ih =>
    intro L i hi
    simp only [upF]
    split
    · exact (ih _ _ (by rw [swE_len]; omega)).trans (swE_perm hi (by omega))
    · exact List.Perm.refl _
theorem downF_perm (mo : Bool) : ∀ (c : Nat) (L : List Ent) (i : Nat), (downF mo c L i).1.Perm L := by
  intro c
  induction c with
  | zero => intro L i; exact List.Perm.refl _
  | succ c ih =>
    intro L i
    simp only [downF]
    by_cases h : 2 * i + 1 < L.length
    · rw [if_pos h]
      have hk := kidE_lt (mo := mo) h
      have hi : i < L.length := Nat.lt_of_le_of_lt (by omega) h
      split
      · exact (ih _ _).trans (swE_perm hi hk)
      · exact List.Perm.refl _
    · rw [if_neg h]
theorem upH_len (mo : Bool) (L : List Ent) (i : Nat) : (upH mo L i).1.length = L.length := upF_len _ _ _ _
theorem downH_len (mo : Bool) (L : List Ent) (i : Nat) : (downH mo L i).1.length = L.length := downF_len _ _ _ _
theorem upH_perm (mo : Bool) (L : List Ent) (i : Nat) (h : i < L.length) : (upH mo L i).1.Perm L := upF_perm _ _ _ _ h
theorem downH_perm (mo : Bool) (L : List Ent) (i : Nat) : (downH mo L i).1.Perm L := downF_perm _ _ _ _
theorem mendH_len (mo : Bool) (L : List Ent) (i : Nat) : (mendH mo L i).1.length = L.length := by unfold mendH; split <;> simp [upH_len, downH_len]
theorem mendH_perm (mo : Bool) (L : List Ent) (i : Nat) (h : i < L.length) : (mendH mo L i).1.Perm L := by
  unfold mendH; split
  · exact (downH_perm _ _ _).trans (upH_perm _ _ _ h)
  · exact upH_perm _ _ _ h
theorem NoTwice.perm {L M : List Ent} (h : NoTwice L) (hp : M.Perm L) : NoTwice M := (List.Perm.pairwise_iff (R := fun a b : Ent => a.2 ≠ b.2) (fun {_ _} h => Ne.symm h) hp).2 h
/-! ### how many moves -/
theorem upF_moves (mo : Bool) : ∀ (c : Nat) (L : List Ent) (i : Nat), 2 ^ (upF mo c L i).2 ≤ i + 1 := by
  intro c
  induction c with
  | zero => intro L i; simp [upF]
  | succ c ih =>
    intro L i
    simp only [upF]
    split
    · rename_i h
      simp only [Bool.and_eq_true, decide_eq_true_eq] at h
      have := ih (swE L i ((i - 1) / 2)) ((i - 1) / 2)
      rw [Nat.pow_succ]
      omega
    · simp
theorem downF_moves (mo : Bool) : ∀ (c : Nat) (L : List Ent) (i : Nat), i < L.length → 2 ^ (downF mo c L i).2 * (i + 1) ≤ L.length := by
  intro c
  induction c with
  | zero => intro L i h; simp [downF]; omega
  | succ c ih =>
    intro L i h
    simp only [downF]
    by_cases hl : 2 * i + 1 < L.length
    · rw [if_pos hl]
      split
      · have hk := kidE_ge mo L i
        have := ih (swE L i (kidE mo L i)) (kidE mo L i) (by rw [swE_len]; exact kidE_lt hl)
        rw [swE_len] at this
        rw [Nat.pow_succ]
        have h2 : 2 ^ (downF mo c (swE L i (kidE mo L i)) (kidE mo L i)).2 * (2 * (i + 1)) ≤ 2 ^ (downF mo c (swE L i (kidE mo L i)) (kidE mo L i)).2 * (kidE mo L i + 1) := Nat.mul_le_mul_left _ (by omega)
        have h3 : 2 ^ (downF mo c (swE L i (kidE mo L i)) (kidE mo L i)).2 * (2 * (i + 1)) = 2 ^ (downF mo c (swE L i (kidE mo L i)) (kidE mo L i)).2 * 2 * (i + 1) := by rw [Nat.mul_assoc]
        omega
      · simp; omega
    · rw [if_neg hl]; simp; omega
theorem mendH_moves (mo : Bool) (L : List Ent) (i : Nat) (h : i < L.length) : 2 ^ (mendH mo L i).2 ≤ L.length := by
  unfold mendH
  split
  · have := downF_moves mo (upH mo L i).1.length (upH mo L i).1 i (by rw [upH_len]; exact h)
    rw [upH_len] at this
    unfold downH
    rw [upH_len]
    have h2 : 2 ^ (downF mo L.length (upH mo L i).1 i).2 * 1 ≤ 2 ^ (downF mo L.length (upH mo L i).1 i).2 * (i + 1) := Nat.mul_le_mul_left _ (by omega)
    omega
  · have := upF_moves mo i L i
    unfold upH; omega
theorem putH_moves (mo : Bool) (L : List Ent) (e : Ent) : 2 ^ (putH mo L e).2 ≤ L.length + 1 := upF_moves _ _ _ _
theorem takeH_len (mo : Bool) (L : List Ent) (i : Nat) : (takeH mo L i).1.length = L.length - 1 := by unfold takeH; split <;> simp [mendH_len]
theorem putH_len (mo : Bool) (L : List Ent) (e : Ent) : (putH mo L e).1.length = L.length + 1 := by unfold putH; simp [upH_len]
theorem turnH_len (mo : Bool) (L : List Ent) (i : Nat) (r : Int) : (turnH mo L i r).1.length = L.length := by unfold turnH; simp [mendH_len]
theorem takeH_moves (mo : Bool) (L : List Ent) (i : Nat) : 2 ^ (takeH mo L i).2 ≤ max (L.length - 1) 1 := by
  unfold takeH
  split
  · rename_i h
    have := mendH_moves mo (L.dropLast.set i (atE L (L.length - 1))) i (by simp; omega)
    simp at this; omega
  · simp; omega
theorem turnH_moves (mo : Bool) (L : List Ent) (i : Nat) (r : Int) (h : i < L.length) : 2 ^ (turnH mo L i r).2 ≤ L.length := by
  have := mendH_moves mo (L.set i (r, (atE L i).2)) i (by simpa using h)
  simpa [turnH] using this
end Go.Proofs.YtaolkcbbkanhbaaGreatDoor
