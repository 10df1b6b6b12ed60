/- What an accumulator tells, in plain lists: numbers under names of series at times; the one that is told. -/
import Derived.Test.YtaolkcbbkanhbaaGreatDoorHpQ
import Derived.Lib.ItoaNum
set_option linter.unusedSimpArgs false
set_option linter.unusedVariables false
namespace Go.Proofs.YtaolkcbbkanhbaaGreatDoor
/-- a number that is in: its series, its time, itself -/
abbrev NumI := List UInt8 × Int × Int
def isAt (s : List UInt8) (t : Int) (o : NumI) : Bool := o.1 == s && o.2.1 == t
theorem isAt_iff {s : List UInt8} {t : Int} {o : NumI} : isAt s t o = true ↔ o.1 = s ∧ o.2.1 = t := by simp [isAt]
def hasN (L : List NumI) (s : List UInt8) (t : Int) : Bool := L.any (isAt s t)
def remN (L : List NumI) (s : List UInt8) (t : Int) : List NumI := L.filter fun o => !isAt s t o
def NoTwo (L : List NumI) : Prop := L.Pairwise fun a b => ¬ (a.1 = b.1 ∧ a.2.1 = b.2.1)
/-! numerals -/
def digB (c : UInt8) : Prop := 48 ≤ c.toNat ∧ c.toNat ≤ 57
theorem digB_of {k : Nat} (h : k < 10) : digB (UInt8.ofNat (48 + k)) ∧ (UInt8.ofNat (48 + k)).toNat = 48 + k := by
  have : (UInt8.ofNat (48 + k)).toNat = 48 + k := by rw [UInt8.toNat_ofNat']; omega
  exact ⟨⟨by omega, by omega⟩, this⟩
theorem dec_digs : ∀ u, ∀ c ∈ Lib.decDigits u, digB c := by
  intro u
  induction u using Nat.strongRecOn with
  | _ u ih =>
    intro c hc
    rw [Lib.decDigits] at hc
    split at hc
    · rename_i h
      rw [List.mem_singleton.1 hc]; exact (digB_of h).1
    · rename_i h
      rcases List.mem_append.1 hc with hc | hc
      · exact ih _ (Nat.div_lt_self (by omega) (by omega)) c hc
      · rw [List.mem_singleton.1 hc]; exact (digB_of (Nat.mod_lt _ (by omega))).1
def valD (l : List UInt8) : Nat := l.foldl (fun a c => a * 10 + (c.toNat - 48)) 0
theorem valD_dec : ∀ u, valD (Lib.decDigits u) = u := by
  intro u
  induction u using Nat.strongRecOn with
  | _ u ih =>
    rw [Lib.decDigits]
    split
    · rename_i h
      unfold valD; simp only [List.foldl_cons, List.foldl_nil]
      rw [(digB_of h).2]; omega
    · rename_i h
      have h1 := ih (u / 10) (Nat.div_lt_self (by omega) (by omega))
      unfold valD at h1 ⊢
      rw [List.foldl_append, h1]
      simp only [List.foldl_cons, List.foldl_nil]
      rw [(digB_of (Nat.mod_lt u (by omega))).2]; omega
theorem dec_len : ∀ (k u : Nat), u < 10 ^ (k + 1) → (Lib.decDigits u).length ≤ k + 1 := by
  intro k
  induction k with
  | zero =>
    intro u h
    rw [Lib.decDigits, dif_pos (by simpa using h)]; simp
  | succ k ih =>
    intro u h
    rw [Lib.decDigits]
    split
    · simp
    · have := ih (u / 10) (by rw [Nat.pow_succ] at h; omega)
      simp only [List.length_append, List.length_cons, List.length_nil]; omega
theorem dec_ne (u : Nat) : Lib.decDigits u ≠ [] := by
  intro h
  have := Lib.decDigits_length u
  rw [h] at this
  have := Lib.nDigits_pos u
  simp at *; omega
theorem itoa_bytes (n : Int) : ∀ c ∈ Lib.itoa n, c ≠ 32 := by
  intro c hc h
  subst h
  unfold Lib.itoa at hc
  split at hc
  · rcases List.mem_cons.1 hc with h | h
    · exact absurd h (by decide)
    · have := (dec_digs _ _ h).1; revert this; decide
  · have := (dec_digs _ _ hc).1; revert this; decide
theorem itoa_inj {a b : Int} (h : Lib.itoa a = Lib.itoa b) : a = b := by
  have key : ∀ u v : Nat, 45 :: Lib.decDigits u ≠ Lib.decDigits v := fun u v e => by
    have := (dec_digs v 45 (by rw [← e]; simp)).1; revert this; decide
  unfold Lib.itoa at h
  split at h <;> split at h
  · injection h with _ h
    have := congrArg valD h
    rw [valD_dec, valD_dec] at this; omega
  · exact absurd h (key _ _)
  · exact absurd h.symm (key _ _)
  · have := congrArg valD h
    rw [valD_dec, valD_dec] at this; omega
theorem itoa_len {n : Int} (h0 : -9223372036854775808 ≤ n) (h1 : n ≤ 9223372036854775807) : (Lib.itoa n).length ≤ 20 := by
  have p : (9223372036854775808 : Nat) < 10 ^ (18 + 1) := by decide
  unfold Lib.itoa
  split
  · have := dec_len 18 n.natAbs (by omega)
    simp only [List.length_cons]; omega
  · have := dec_len 18 n.toNat (by omega)
    omega
theorem split_inj {c : UInt8} : ∀ {a a' s s' : List UInt8}, (∀ x ∈ a, x ≠ c) → (∀ x ∈ a', x ≠ c) → a ++ c :: s = a' ++ c :: s' → a = a' ∧ s = s'
  | [], [], s, s', _, _, h => by simpa using h
  | [], y :: a', s, s', _, h', h => by
    injection h with h _
    exact absurd h.symm (h' y (by simp))
  | x :: a, [], s, s', h', _, h => by
    injection h with h _
    exact absurd h (h' x (by simp))
  | x :: a, y :: a', s, s', h1, h2, h => by
    injection h with e h
    obtain ⟨p, q⟩ := split_inj (fun z hz => h1 z (by simp [hz])) (fun z hz => h2 z (by simp [hz])) h
    exact ⟨by rw [e, p], q⟩
/-- the name under which a number is in -/
def nameL (s : List UInt8) (t : Int) : List UInt8 := Lib.itoa t ++ [32] ++ s
theorem nameL_inj {s s' : List UInt8} {t t' : Int} (h : nameL s t = nameL s' t') : s = s' ∧ t = t' := by
  unfold nameL at h
  rw [List.append_assoc, List.append_assoc] at h
  obtain ⟨a, b⟩ := split_inj (itoa_bytes t) (itoa_bytes t') h
  exact ⟨b, itoa_inj a⟩
theorem nameL_len {s : List UInt8} {t : Int} (h0 : -9223372036854775808 ≤ t) (h1 : t ≤ 9223372036854775807) : (nameL s t).length ≤ s.length + 21 := by
  have := itoa_len h0 h1
  unfold nameL; simp only [List.length_append, List.length_cons, List.length_nil]; omega
theorem name_is (o : NumI) (s : List UInt8) (t : Int) : (nameL o.1 o.2.1 == nameL s t) = isAt s t o := by
  rw [Bool.eq_iff_iff, beq_iff_eq, isAt_iff]
  exact ⟨nameL_inj, fun ⟨a, b⟩ => by rw [a, b]⟩
/-! what is in behind a call -/
theorem hasN_iff {L : List NumI} {s : List UInt8} {t : Int} : hasN L s t = true ↔ ∃ o ∈ L, o.1 = s ∧ o.2.1 = t := by simp [hasN, isAt]
theorem hasN_false {L : List NumI} {s : List UInt8} {t : Int} (h : hasN L s t = false) : ∀ o ∈ L, ¬ (o.1 = s ∧ o.2.1 = t) := fun o ho e => by
  rw [hasN_iff.2 ⟨o, ho, e⟩] at h; cases h
theorem NoTwo.add {L : List NumI} {s : List UInt8} {t n : Int} (h : NoTwo L) (hf : hasN L s t = false) : NoTwo (L ++ [(s, t, n)]) := by
  unfold NoTwo
  rw [List.pairwise_append]
  exact ⟨h, List.pairwise_singleton _ _, fun a ha b hb => by rw [List.mem_singleton.1 hb]; exact hasN_false hf a ha⟩
theorem NoTwo.rem {L : List NumI} {s : List UInt8} {t : Int} (h : NoTwo L) : NoTwo (remN L s t) := h.sublist List.filter_sublist
theorem remN_len (L : List NumI) (s : List UInt8) (t : Int) : (remN L s t).length ≤ L.length := List.length_filter_le _ _
theorem remN_none {L : List NumI} {s : List UInt8} {t : Int} (hf : hasN L s t = false) : remN L s t = L := by
  unfold remN
  rw [List.filter_eq_self]
  intro o ho
  have := hasN_false hf o ho
  cases h : isAt s t o with
  | false => rfl
  | true => exact absurd (isAt_iff.1 h) this
theorem mem_remN {L : List NumI} {s : List UInt8} {t : Int} {o : NumI} : o ∈ remN L s t ↔ o ∈ L ∧ ¬ (o.1 = s ∧ o.2.1 = t) := by
  unfold remN
  rw [List.mem_filter, Bool.not_eq_true', ← isAt_iff (s := s) (t := t)]
  simp
/-- where one is -/
theorem find_at {L : List NumI} {s : List UInt8} {t : Int} (h : hasN L s t = true) : ∃ i n, i < L.length ∧ L[i]? = some (s, t, n) ∧ L.find? (isAt s t) = some (s, t, n) ∧ (∀ j o, j < i → L[j]? = some o → isAt s t o = false) := by
  induction L with
  | nil => simp [hasN] at h
  | cons o r ih =>
    by_cases ho : isAt s t o = true
    · obtain ⟨a, b⟩ := isAt_iff.1 ho
      refine ⟨0, o.2.2, by simp, ?_, ?_, fun j _ hj => by omega⟩
      · simp only [List.getElem?_cons_zero]; rw [← a, ← b]
      · rw [List.find?_cons_of_pos ho, ← a, ← b]
    · have hr : hasN r s t = true := by
        unfold hasN at h ⊢
        simpa [ho] using h
      obtain ⟨i, n, h1, h2, h3, h4⟩ := ih hr
      refine ⟨i + 1, n, by simpa using h1, by simpa using h2, by rw [List.find?_cons_of_neg ho]; exact h3, fun j q hj hq => ?_⟩
      cases j with
      | zero => simp only [List.getElem?_cons_zero, Option.some.injEq] at hq; subst hq; simpa using ho
      | succ j => exact h4 j q (by omega) (by simpa using hq)
theorem remN_erase {L : List NumI} {s : List UInt8} {t : Int} (h : NoTwo L) {i : Nat} {n : Int} (hi : L[i]? = some (s, t, n)) : remN L s t = L.take i ++ L.drop (i + 1) := by
  induction L generalizing i with
  | nil => simp at hi
  | cons o r ih =>
    obtain ⟨h1, h2⟩ := List.pairwise_cons.1 h
    cases i with
    | zero =>
      simp only [List.getElem?_cons_zero, Option.some.injEq] at hi
      subst hi
      have hp : isAt s t (s, t, n) = true := isAt_iff.2 ⟨rfl, rfl⟩
      unfold remN
      rw [List.filter_cons_of_neg (by simp [hp])]
      simp only [List.take_zero, List.nil_append, List.drop_succ_cons, List.drop_zero]
      rw [List.filter_eq_self]
      intro q hq
      have := h1 q hq
      cases hx : isAt s t q with
      | false => rfl
      | true => obtain ⟨a, b⟩ := isAt_iff.1 hx; exact absurd ⟨a.symm, b.symm⟩ this
    | succ i =>
      simp only [List.getElem?_cons_succ] at hi
      have hp : isAt s t o = false := by
        cases hx : isAt s t o with
        | false => rfl
        | true => exact absurd (isAt_iff.1 hx) (h1 _ (List.mem_of_getElem? hi))
      have := ih h2 hi
      unfold remN at this ⊢
      rw [List.filter_cons_of_pos (by simp [hp]), this]; rfl
/-! the numbers of a time -/
def clsN (L : List NumI) (t : Int) : List NumI := L.filter fun o => o.2.1 == t
theorem mem_cls {L : List NumI} {t : Int} {o : NumI} : o ∈ clsN L t ↔ o ∈ L ∧ o.2.1 = t := by simp [clsN]
theorem cls_add (L : List NumI) (s : List UInt8) (t n u : Int) : clsN (L ++ [(s, t, n)]) u = if t = u then clsN L u ++ [(s, t, n)] else clsN L u := by
  unfold clsN
  rw [List.filter_append]
  by_cases h : t = u
  · simp [h]
  · simp [h]
theorem cls_rem (L : List NumI) (s : List UInt8) (t u : Int) : clsN (remN L s t) u = if t = u then (clsN L u).filter (fun o => o.1 != s) else clsN L u := by
  unfold clsN remN
  rw [List.filter_filter]
  by_cases h : t = u
  · subst h
    rw [if_pos rfl, List.filter_filter]
    congr 1
    funext o
    unfold isAt
    cases h1 : (o.1 == s) <;> cases h2 : (o.2.1 == t) <;> simp [bne, h1, h2]
  · rw [if_neg h]
    congr 1
    funext o
    unfold isAt
    cases h2 : (o.2.1 == u) with
    | false => rfl
    | true =>
      have h3 : (o.2.1 == t) = false := by
        rw [beq_iff_eq] at h2
        rw [h2]
        exact beq_eq_false_iff_ne.2 (fun e => h e.symm)
      rw [h3]; simp
theorem cls_len (L : List NumI) (t : Int) : (clsN L t).length ≤ L.length := List.length_filter_le _ _
/-! the one that is told -/
section
variable (c : List UInt8 → List UInt8 → Int)
/-- is a number told ahead of another? (4: the least, 5: the greatest, 6: the earliest, else the latest) -/
def aheadN (f : Nat) (x y : NumI) : Bool :=
  if f = 4 then decide (x.2.2 < y.2.2) else if f = 5 then decide (y.2.2 < x.2.2) else
  if f = 6 then decide (x.2.1 < y.2.1) || (decide (x.2.1 = y.2.1) && decide (c x.1 y.1 < 0)) else decide (y.2.1 < x.2.1) || (decide (x.2.1 = y.2.1) && decide (c y.1 x.1 < 0))
def bestF (f : Nat) (b : NumI) (l : List NumI) : NumI := l.foldl (fun b x => if aheadN c f x b then x else b) b
/-- of those at one time -/
def betterN (last : Bool) (x y : NumI) : Bool := if last then decide (0 < c x.1 y.1) else decide (c x.1 y.1 < 0)
def bestC (last : Bool) (b : NumI) (l : List NumI) : NumI := l.foldl (fun b x => if betterN c last x b then x else b) b
theorem best_mem (f : Nat) : ∀ (l : List NumI) (b : NumI), bestF c f b l ∈ b :: l := by
  intro l
  induction l with
  | nil => intro b; simp [bestF]
  | cons x r ih =>
    intro b
    unfold bestF at ih ⊢
    simp only [List.foldl_cons]
    have := ih (if aheadN c f x b = true then x else b)
    rcases List.mem_cons.1 this with h | h
    · rw [h]; split <;> simp
    · simp [h]
/-- nothing is ahead of it, where 'ahead' goes by a rank alone -/
theorem best_rank (f : Nat) (r : NumI → Int) (hf : ∀ x y, aheadN c f x y = decide (r x < r y)) : ∀ (l : List NumI) (b : NumI), ∀ o ∈ b :: l, r (bestF c f b l) ≤ r o := by
  intro l
  induction l with
  | nil => intro b o ho; rw [List.mem_singleton.1 ho]; exact Int.le_refl _
  | cons x q ih =>
    intro b o ho
    have h1 := ih (if aheadN c f x b = true then x else b)
    have h0 := h1 _ (List.mem_cons_self ..)
    have e : bestF c f b (x :: q) = bestF c f (if aheadN c f x b = true then x else b) q := rfl
    rw [e]
    rw [hf] at h0 h1 ⊢
    rcases List.mem_cons.1 ho with h | h
    · subst h
      split at h0 <;> rename_i hx <;> simp only [decide_eq_true_eq] at hx
      · rw [if_pos (by simpa using hx)]; omega
      · rw [if_neg (by simpa using hx)]; omega
    · rcases List.mem_cons.1 h with h | h
      · subst h
        split at h0 <;> rename_i hx <;> simp only [decide_eq_true_eq] at hx
        · rw [if_pos (by simpa using hx)]; omega
        · rw [if_neg (by simpa using hx)]; omega
      · exact h1 o (by simp [h])
variable (hc : ∀ a b, c a b = -c b a)
include hc
theorem ahead_same (f : Nat) (hf : f = 6 ∨ f = 7) {x y : NumI} (h : x.2.1 = y.2.1) : aheadN c f x y = betterN c (f == 7) x y := by
  have := hc x.1 y.1
  rcases hf with rfl | rfl
  · unfold aheadN betterN; simp [h]
  · unfold aheadN betterN; simp [h]; omega
/-- what comes first: by time alone -/
def firstT (f : Nat) (a b : Int) : Prop := if f = 7 then b ≤ a else a ≤ b
theorem best_same (f : Nat) (hf : f = 6 ∨ f = 7) (T : Int) : ∀ (l : List NumI) (b : NumI), b.2.1 = T → (∀ o ∈ l, firstT f T o.2.1) → bestF c f b l = bestC c (f == 7) b (clsN l T) := by
  intro l
  induction l with
  | nil => intro b _ _; rfl
  | cons x q ih =>
    intro b hb hl
    have e : bestF c f b (x :: q) = bestF c f (if aheadN c f x b = true then x else b) q := rfl
    rw [e]
    by_cases hx : x.2.1 = T
    · rw [ahead_same c hc f hf (hx.trans hb.symm)]
      have : clsN (x :: q) T = x :: clsN q T := by unfold clsN; rw [List.filter_cons_of_pos (by simp [hx])]
      rw [this]
      show _ = bestC c (f == 7) (if betterN c (f == 7) x b = true then x else b) (clsN q T)
      exact ih _ (by split; exact hx; exact hb) (fun o ho => hl o (by simp [ho]))
    · have : clsN (x :: q) T = clsN q T := by unfold clsN; rw [List.filter_cons_of_neg (by simp [hx])]
      rw [this]
      have h1 := hl x (by simp)
      have h2 : aheadN c f x b = false := by
        unfold firstT at h1
        rcases hf with rfl | rfl
        · simp at h1; unfold aheadN; simp [hb]; exact ⟨by omega, fun e => absurd e hx⟩
        · simp at h1; unfold aheadN; simp [hb]; exact ⟨by omega, fun e => absurd e hx⟩
      rw [h2]
      exact ih b hb (fun o ho => hl o (by simp [ho]))
theorem best_other (f : Nat) (hf : f = 6 ∨ f = 7) (T : Int) : ∀ (l : List NumI) (b : NumI), b.2.1 ≠ T → firstT f T b.2.1 → (∀ o ∈ l, firstT f T o.2.1) → ∀ y ys, clsN l T = y :: ys → bestF c f b l = bestC c (f == 7) y ys := by
  intro l
  induction l with
  | nil => intro b _ _ _ y ys h; cases h
  | cons x q ih =>
    intro b hb hb' hl y ys h
    have e : bestF c f b (x :: q) = bestF c f (if aheadN c f x b = true then x else b) q := rfl
    rw [e]
    by_cases hx : x.2.1 = T
    · have hxx : clsN (x :: q) T = x :: clsN q T := by unfold clsN; rw [List.filter_cons_of_pos (by simp [hx])]
      rw [hxx] at h
      injection h with h1 h2
      subst h1; subst h2
      have h2 : aheadN c f x b = true := by
        unfold firstT at hb'
        rcases hf with rfl | rfl
        · simp at hb'; unfold aheadN; simp [hx]; exact Or.inl (by omega)
        · simp at hb'; unfold aheadN; simp [hx]; exact Or.inl (by omega)
      rw [h2, if_pos rfl]
      exact best_same c hc f hf T q x hx (fun o ho => hl o (by simp [ho]))
    · have hxx : clsN (x :: q) T = clsN q T := by unfold clsN; rw [List.filter_cons_of_neg (by simp [hx])]
      rw [hxx] at h
      refine ih _ ?_ ?_ (fun o ho => hl o (by simp [ho])) y ys h
      · split; exact hx; exact hb
      · split; exact hl x (by simp); exact hb'
theorem best_cls (f : Nat) (hf : f = 6 ∨ f = 7) (T : Int) (b : NumI) (l : List NumI) (hl : ∀ o ∈ b :: l, firstT f T o.2.1) (y : NumI) (ys : List NumI) (h : clsN (b :: l) T = y :: ys) : bestF c f b l = bestC c (f == 7) y ys := by
  by_cases hb : b.2.1 = T
  · have hxx : clsN (b :: l) T = b :: clsN l T := by unfold clsN; rw [List.filter_cons_of_pos (by simp [hb])]
    rw [hxx] at h
    injection h with h1 h2
    subst h1; subst h2
    exact best_same c hc f hf T l b hb (fun o ho => hl o (by simp [ho]))
  · have hxx : clsN (b :: l) T = clsN l T := by unfold clsN; rw [List.filter_cons_of_neg (by simp [hb])]
    rw [hxx] at h
    exact best_other c hc f hf T l b hb (hl b (by simp)) (fun o ho => hl o (by simp [ho])) y ys h
end
/-! a heap that holds what is told of each -/
/-- just what g tells of those in L is in the heap -/
def InH (g : NumI → Ent) (H : List Ent) (L : List NumI) : Prop := ∀ e, e ∈ H ↔ ∃ o ∈ L, g o = e
theorem nodup_two {H : List Ent} (h : NoTwice H) : H.Nodup := by
  refine List.Pairwise.imp (fun hab e => hab (by rw [e])) h
theorem InH.len {g : NumI → Ent} {H : List Ent} {L : List NumI} (h : InH g H L) (hN : NoTwice H) : H.length ≤ L.length := by
  rw [← List.length_map (f := g)]
  refine List.Nodup.length_le_of_subset (nodup_two hN) (fun e he => ?_)
  obtain ⟨o, ho, rfl⟩ := (h e).1 he
  exact List.mem_map_of_mem ho
theorem mem_at {H : List Ent} {e : Ent} : e ∈ H ↔ ∃ i, i < H.length ∧ atE H i = e := by
  rw [List.mem_iff_getElem?]
  constructor
  · rintro ⟨i, hi⟩
    have hl : i < H.length := by
      rcases Nat.lt_or_ge i H.length with h | h
      · exact h
      · rw [List.getElem?_eq_none h] at hi; cases hi
    exact ⟨i, hl, by unfold atE; rw [List.getD_eq_getElem?_getD, hi]; rfl⟩
  · rintro ⟨i, hi, rfl⟩
    exact ⟨i, by unfold atE; rw [List.getD_eq_getElem?_getD, List.getElem?_eq_getElem hi]; rfl⟩
/-- the top's rank is the least (the greatest) of all -/
theorem InH.top {g : NumI → Ent} {mo : Bool} {H : List Ent} {L : List NumI} (h : InH g H L) (hk : HeapOk mo H) (hL : L ≠ []) : 0 < H.length ∧ (∃ o ∈ L, g o = atE H 0) ∧ ∀ o ∈ L, if mo then (g o).1 ≤ (atE H 0).1 else (atE H 0).1 ≤ (g o).1 := by
  obtain ⟨o0, r, rfl⟩ : ∃ o r, L = o :: r := by
    cases L with
    | nil => exact absurd rfl hL
    | cons o r => exact ⟨o, r, rfl⟩
  have h0 : 0 < H.length := List.length_pos_of_mem ((h (g o0)).2 ⟨o0, by simp, rfl⟩)
  refine ⟨h0, (h _).1 (mem_at.2 ⟨0, h0, rfl⟩), fun o ho => ?_⟩
  obtain ⟨i, hi, he⟩ := mem_at.1 ((h (g o)).2 ⟨o, ho, rfl⟩)
  have := top_least hk i hi
  rw [he] at this
  unfold ahE ltE at this
  cases mo
  · simp only [Bool.false_eq_true, if_false, Bool.or_eq_false_iff, decide_eq_false_iff_not] at this ⊢
    omega
  · simp only [if_true, Bool.or_eq_false_iff, decide_eq_false_iff_not] at this ⊢
    omega
theorem InH.put {g : NumI → Ent} {mo : Bool} {H : List Ent} {L : List NumI} (h : InH g H L) (o : NumI) : InH g (putH mo H (g o)).1 (L ++ [o]) := fun e => by
  rw [(put_perm mo H (g o)).mem_iff, List.mem_cons, h e]
  constructor
  · rintro (rfl | ⟨q, hq, rfl⟩)
    · exact ⟨o, by simp, rfl⟩
    · exact ⟨q, by simp [hq], rfl⟩
  · rintro ⟨q, hq, rfl⟩
    rcases List.mem_append.1 hq with hq | hq
    · exact Or.inr ⟨q, hq, rfl⟩
    · exact Or.inl (by rw [List.mem_singleton.1 hq])
theorem InH.stay {g : NumI → Ent} {H : List Ent} {L : List NumI} (h : InH g H L) {o : NumI} (ho : ∃ q ∈ L, g q = g o) : InH g H (L ++ [o]) := fun e => by
  rw [h e]
  constructor
  · rintro ⟨q, hq, rfl⟩; exact ⟨q, by simp [hq], rfl⟩
  · rintro ⟨q, hq, rfl⟩
    rcases List.mem_append.1 hq with hq | hq
    · exact ⟨q, hq, rfl⟩
    · obtain ⟨q', hq', e'⟩ := ho
      exact ⟨q', hq', by rw [List.mem_singleton.1 hq, e']⟩
theorem mem_take {mo : Bool} {H : List Ent} {s : List UInt8} {i : Nat} (hN : NoTwice H) (hf : findE H s = some i) (e : Ent) : e ∈ (takeH mo H i).1 ↔ e ∈ H ∧ e.2 ≠ s := by
  obtain ⟨hi, hs⟩ := findE_some hf
  have hp := take_perm mo H i hi
  have hN' : NoTwice (atE H i :: (takeH mo H i).1) := hN.perm hp
  obtain ⟨h1, h2⟩ := List.pairwise_cons.1 hN'
  constructor
  · intro he
    exact ⟨hp.mem_iff.1 (List.mem_cons_of_mem _ he), fun e' => h1 e he (by rw [hs, e'])⟩
  · rintro ⟨he, hne⟩
    rcases List.mem_cons.1 (hp.mem_iff.2 he) with h | h
    · rw [h] at hne; exact absurd hs hne
    · exact h
theorem InH.take {g : NumI → Ent} {mo : Bool} {H : List Ent} {L L' : List NumI} {s : List UInt8} {i : Nat} (h : InH g H L) (hN : NoTwice H) (hf : findE H s = some i) (hL : ∀ o, o ∈ L' ↔ o ∈ L ∧ (g o).2 ≠ s) : InH g (takeH mo H i).1 L' := fun e => by
  rw [mem_take hN hf, h e]
  constructor
  · rintro ⟨⟨o, ho, rfl⟩, hne⟩; exact ⟨o, (hL o).2 ⟨ho, hne⟩, rfl⟩
  · rintro ⟨o, ho, rfl⟩; obtain ⟨h1, h2⟩ := (hL o).1 ho; exact ⟨⟨o, h1, rfl⟩, h2⟩
theorem InH.find {g : NumI → Ent} {H : List Ent} {L : List NumI} (h : InH g H L) (s : List UInt8) : (∀ i, findE H s = some i → ∃ o ∈ L, (g o).2 = s) ∧ (findE H s = none → ∀ o ∈ L, (g o).2 ≠ s) := by
  constructor
  · intro i hi
    obtain ⟨h1, h2⟩ := findE_some hi
    obtain ⟨o, ho, e⟩ := (h _).1 (atE_mem h1)
    exact ⟨o, ho, by rw [e, h2]⟩
  · intro hn o ho
    exact findE_none hn _ ((h _).2 ⟨o, ho, rfl⟩)
end Go.Proofs.YtaolkcbbkanhbaaGreatDoor
