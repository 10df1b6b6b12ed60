/- Plain law: verify's heights and the document's are the same. -/
import GoSem.Claim
set_option linter.unusedVariables false
namespace Go.Proofs.YtbcajmkmadgbhaaGreatDoor
/-- an instruction -/
structure InsD where
  c : Nat
  a : Int
  b : Int
def takesC (c : Nat) : Int :=
  if c = 7 ∨ c = 10 ∨ c = 11 ∨ c = 12 ∨ c = 13 ∨ c = 17 ∨ c = 23 then 1
  else if c = 8 ∨ c = 9 ∨ (18 ≤ c ∧ c ≤ 22) then 2 else 0
def putsC (c : Nat) : Int := if c = 12 ∨ c = 13 ∨ c = 23 ∨ c = 24 then 0 else 1
def jumpC (c : Nat) : Bool := c == 10 || c == 11
def endC (c : Nat) : Bool := c == 13 || c == 24
/-- verify's heights: how high, what comes by jumps, what was told -/
structure HS where
  high : Int
  com : Int → Option Int
  out : List Int
def delF (f : Int → Option Int) (n : Int) : Int → Option Int := fun j => if j = n then none else f j
def putF (f : Int → Option Int) (n v : Int) : Int → Option Int := fun j => if j = n then some v else f j
def unlike (o : Option Int) (h : Int) : Bool := match o with | some x => x != h | none => false
def behindC (c : Nat) (h : Int) : Int := h - takesC c + putsC c
def jumpedF (f : Int → Option Int) (i : InsD) (v : Int) : Int → Option Int :=
  if jumpC i.c then putF f i.a (if unlike (f i.a) v then -1 else v) else f
def badH (i : InsD) (h : Int) : Bool := decide (h < takesC i.c) || decide (behindC i.c h > 200) || (endC i.c && behindC i.c h != 0)
def stepH (i : InsD) (n : Int) (s : HS) : HS :=
  ⟨behindC i.c s.high, jumpedF (delF s.com n) i (behindC i.c s.high), s.out ++ [s.high]⟩
def heiF : List InsD → Nat → HS → Nat ⊕ List Int
  | [], _, s => .inr s.out
  | i :: r, n, s => if unlike (s.com n) s.high || badH i s.high then .inl n else heiF r (n + 1) (stepH i n s)
def hs0 : HS := ⟨0, fun _ => none, []⟩
/-- the document's: out and parts, all laid ahead -/
def nextR (i : InsD) (n : Nat) : List Nat := if endC i.c then [] else if jumpC i.c then [n + 1, i.a.toNat] else [n + 1]
def setR (s : List Int × List Bool) (to : Nat) (now : Int) : List Int × List Bool :=
  (s.1.set to now, s.2.set to (s.2.getD to false || (decide (s.1.getD to 0 ≥ 0) && s.1.getD to 0 != now)))
def badR (i : InsD) (n : Nat) (s : List Int × List Bool) : Bool :=
  s.2.getD n false || decide (s.1.getD n 0 < takesC i.c) || decide (behindC i.c (s.1.getD n 0) > 200) || (endC i.c && behindC i.c (s.1.getD n 0) != 0)
def stepR (i : InsD) (n : Nat) (s : List Int × List Bool) : List Int × List Bool :=
  (nextR i n).foldl (fun s to => setR s to (behindC i.c (s.1.getD n 0))) s
def heiR : List InsD → Nat → List Int × List Bool → Nat ⊕ List Int
  | [], _, s => .inr s.1
  | i :: r, n, s => if badR i n s then .inl n else heiR r (n + 1) (stepR i n s)
/-- what is formed: the last one ends, no other; jumps go on, within -/
structure Formed (L : List InsD) : Prop where
  ends : ∀ (n : Nat) (i : InsD), L[n]? = some i → (endC i.c = true ↔ n + 1 = L.length)
  jumps : ∀ (n : Nat) (i : InsD), L[n]? = some i → jumpC i.c = true → (n : Int) < i.a ∧ i.a < L.length
/-- what has come to an instruction by jumps, on both sides -/
def ComH (c : Option Int) (o : Int) (p : Bool) : Prop :=
  (c = none ∧ o = -1 ∧ p = false) ∨ (c = some (-1) ∧ 0 ≤ o ∧ p = true) ∨ (∃ h, c = some h ∧ 0 ≤ h ∧ o = h ∧ p = false)
/-- both at one place -/
structure RelH (L : List InsD) (n : Nat) (s : HS) (o : List Int × List Bool) : Prop where
  l1 : o.1.length = L.length
  l2 : o.2.length = L.length
  lo : s.out.length = n
  told : ∀ j, j < n → o.1[j]? = s.out[j]?
  hi : n < L.length → o.1.getD n 0 = s.high ∧ o.2.getD n false = unlike (s.com n) s.high
  pos : 0 ≤ s.high
  ahead : ∀ j : Nat, n < j → j < L.length → ComH (s.com j) (o.1.getD j 0) (o.2.getD j false)
theorem getD_set_ne {α : Type} {l : List α} {i j : Nat} {v d : α} (h : i ≠ j) : (l.set i v).getD j d = l.getD j d := by
  rw [List.getD_eq_getElem?_getD, List.getD_eq_getElem?_getD, List.getElem?_set_ne h]
theorem getD_set_eq {α : Type} {l : List α} {i : Nat} {v d : α} (h : i < l.length) : (l.set i v).getD i d = v := by
  rw [List.getD_eq_getElem?_getD, List.getElem?_set_self h]; rfl
theorem start_rel (L : List InsD) (hL : 0 < L.length) : RelH L 0 hs0 ((List.replicate L.length (-1)).set 0 0, List.replicate L.length false) where
  l1 := by simp
  l2 := by simp
  lo := rfl
  told := fun j h => absurd h (by omega)
  hi := fun h => ⟨getD_set_eq (by simpa using h), by rw [List.getD_eq_getElem?_getD, List.getElem?_replicate, if_pos h]; rfl⟩
  pos := Int.le_refl 0
  ahead := fun j h hj => by
    refine Or.inl ⟨rfl, ?_, ?_⟩
    · rw [getD_set_ne (by omega), List.getD_eq_getElem?_getD, List.getElem?_replicate, if_pos hj]; rfl
    · rw [List.getD_eq_getElem?_getD, List.getElem?_replicate, if_pos hj]; rfl
theorem takes_le (c : Nat) : 0 ≤ takesC c ∧ 0 ≤ putsC c := by
  unfold takesC putsC
  constructor <;> repeat' split
  all_goals omega
theorem bad_eq {L : List InsD} {n : Nat} {s : HS} {o : List Int × List Bool} {i : InsD} (h : RelH L n s o) (hn : n < L.length) : badR i n o = (unlike (s.com n) s.high || badH i s.high) := by
  unfold badR badH
  rw [(h.hi hn).1, (h.hi hn).2]
  simp [Bool.or_assoc]
theorem ComH.jumped {c : Option Int} {o : Int} {p : Bool} (h : ComH c o p) {v : Int} (hv : 0 ≤ v) : ComH (some (if unlike c v then -1 else v)) v (p || (decide (o ≥ 0) && o != v)) := by
  rcases h with ⟨rfl, rfl, rfl⟩ | ⟨rfl, ho, rfl⟩ | ⟨x, rfl, hx, rfl, rfl⟩
  · exact Or.inr (Or.inr ⟨v, by simp [unlike], hv, rfl, by simp⟩)
  · have : ((-1 : Int) != v) = true := by simp; omega
    exact Or.inr (Or.inl ⟨by simp [unlike, this], hv, rfl⟩)
  · by_cases e : o = v
    · subst e
      exact Or.inr (Or.inr ⟨o, by simp [unlike], hv, rfl, by simp⟩)
    · have : (o != v) = true := by simpa using e
      exact Or.inr (Or.inl ⟨by simp [unlike, this], hv, by simp [this, hx]⟩)
theorem ComH.fell {c : Option Int} {o : Int} {p : Bool} (h : ComH c o p) {v : Int} (hv : 0 ≤ v) : (p || (decide (o ≥ 0) && o != v)) = unlike c v := by
  rcases h with ⟨rfl, rfl, rfl⟩ | ⟨rfl, ho, rfl⟩ | ⟨x, rfl, hx, rfl, rfl⟩
  · simp [unlike]
  · have : ((-1 : Int) != v) = true := by simp; omega
    simp [unlike, this]
  · simp [unlike, hx]
theorem unlike_twice (c : Option Int) {v : Int} (hv : 0 ≤ v) : unlike (some (if unlike c v then -1 else v)) v = unlike c v := by
  have : ((-1 : Int) != v) = true := by simp; omega
  cases h : unlike c v <;> simp [unlike, this]
theorem setR_1 {s : List Int × List Bool} {to : Nat} {now : Int} (h : to < s.1.length) (j : Nat) : (setR s to now).1.getD j 0 = if j = to then now else s.1.getD j 0 := by
  unfold setR
  by_cases e : j = to
  · subst e; rw [if_pos rfl]; exact getD_set_eq h
  · rw [if_neg e]; exact getD_set_ne (fun x => e x.symm)
theorem setR_2 {s : List Int × List Bool} {to : Nat} {now : Int} (h : to < s.2.length) (j : Nat) : (setR s to now).2.getD j false = if j = to then (s.2.getD to false || (decide (s.1.getD to 0 ≥ 0) && s.1.getD to 0 != now)) else s.2.getD j false := by
  unfold setR
  by_cases e : j = to
  · subst e; rw [if_pos rfl]; exact getD_set_eq h
  · rw [if_neg e]; exact getD_set_ne (fun x => e x.symm)
theorem setR_len (s : List Int × List Bool) (to : Nat) (now : Int) : (setR s to now).1.length = s.1.length ∧ (setR s to now).2.length = s.2.length := by
  unfold setR; simp
theorem setR_told {s : List Int × List Bool} {to j : Nat} {now : Int} (h : j ≠ to) : (setR s to now).1[j]? = s.1[j]? := by
  unfold setR; exact List.getElem?_set_ne (fun x => h x.symm)
theorem step_rel {L : List InsD} {n : Nat} {s : HS} {o : List Int × List Bool} {i : InsD} (hf : Formed L) (h : RelH L n s o) (hn : L[n]? = some i) (hb : (unlike (s.com n) s.high || badH i s.high) = false) : RelH L (n + 1) (stepH i n s) (stepR i n o) := by
  have hlt : n < L.length := (List.getElem?_eq_some_iff.1 hn).1
  have hge : 0 ≤ behindC i.c s.high := by
    have h1 := takes_le i.c
    simp only [Bool.or_eq_false_iff, badH, decide_eq_false_iff_not] at hb
    unfold behindC
    omega
  have hh := h.hi hlt
  have told1 : o.1[n]? = some s.high := by
    have := hh.1
    rw [List.getD_eq_getElem?_getD] at this
    rw [List.getElem?_eq_getElem (by rw [h.l1]; exact hlt)] at this ⊢
    exact congrArg some this
  have told2 : ∀ j, j < n + 1 → o.1[j]? = (s.out ++ [s.high])[j]? := fun j hj => by
    rcases Nat.lt_or_ge j n with h1 | h1
    · rw [List.getElem?_append_left (by rw [h.lo]; exact h1)]; exact h.told j h1
    · have e : j = n := by omega
      subst e
      rw [told1, List.getElem?_append_right (by rw [h.lo]; exact Nat.le_refl _), h.lo, Nat.sub_self]; rfl
  rcases Nat.lt_or_ge (n + 1) L.length with hl | hl
  · have he : endC i.c = false := by
      cases e : endC i.c with
      | false => rfl
      | true => exact absurd ((hf.ends n i hn).1 e) (by omega)
    have hnx := h.ahead (n + 1) (by omega) hl
    have com1 : ∀ j : Nat, n < j → delF s.com n j = s.com j := fun j hj => by unfold delF; rw [if_neg (by omega)]
    cases hj : jumpC i.c with
    | false =>
      have e1 : stepR i n o = setR o (n + 1) (behindC i.c s.high) := by
        unfold stepR nextR; rw [he, hj]
        simp only [Bool.false_eq_true, if_false, List.foldl_cons, List.foldl_nil, hh.1]
      rw [e1]
      refine ⟨by rw [(setR_len _ _ _).1]; exact h.l1, by rw [(setR_len _ _ _).2]; exact h.l2, by simp [stepH, h.lo], fun j hj' => ?_, fun _ => ⟨?_, ?_⟩, hge, fun j h1 h2 => ?_⟩
      · rw [setR_told (by omega)]; exact told2 j hj'
      · rw [setR_1 (by rw [h.l1]; exact hl), if_pos rfl]; rfl
      · rw [setR_2 (by rw [h.l2]; exact hl), if_pos rfl, hnx.fell hge]
        simp only [stepH, jumpedF, hj]
        rw [if_neg (by simp), com1 (n + 1) (by omega)]
      · rw [setR_1 (by rw [h.l1]; exact hl), setR_2 (by rw [h.l2]; exact hl), if_neg (by omega), if_neg (by omega)]
        simp only [stepH, jumpedF, hj]
        rw [if_neg (by simp), com1 j (by omega)]
        exact h.ahead j (by omega) h2
    | true =>
      obtain ⟨ha1, ha2⟩ := hf.jumps n i hn hj
      obtain ⟨t, ht⟩ : ∃ t : Nat, i.a = t := ⟨i.a.toNat, by omega⟩
      have ht2 : i.a.toNat = t := by omega
      rw [ht] at ha1 ha2
      have ha1' : n < t := by omega
      have ha2' : t < L.length := by omega
      have e1 : stepR i n o = setR (setR o (n + 1) (behindC i.c s.high)) t (behindC i.c s.high) := by
        unfold stepR nextR; rw [he, hj, ht2]
        simp only [Bool.false_eq_true, if_false, if_true, List.foldl_cons, List.foldl_nil, hh.1]
        rw [setR_1 (by rw [h.l1]; exact hl), if_neg (by omega), hh.1]
      have com2 : ∀ j : Nat, n < j → (stepH i n s).com j = if j = t then some (if unlike (s.com t) (behindC i.c s.high) then -1 else behindC i.c s.high) else s.com j := fun j hjn => by
        simp only [stepH, jumpedF, hj, if_true, putF, ht]
        by_cases e : j = t
        · subst e; rw [if_pos rfl, if_pos rfl, com1 _ hjn]
        · rw [if_neg (by omega), if_neg e, com1 _ hjn]
      rw [e1]
      have q1 : n + 1 < o.1.length := by rw [h.l1]; exact hl
      have q2 : n + 1 < o.2.length := by rw [h.l2]; exact hl
      have q3 : t < (setR o (n + 1) (behindC i.c s.high)).1.length := by rw [(setR_len _ _ _).1, h.l1]; exact ha2'
      have q4 : t < (setR o (n + 1) (behindC i.c s.high)).2.length := by rw [(setR_len _ _ _).2, h.l2]; exact ha2'
      refine ⟨by rw [(setR_len _ _ _).1, (setR_len _ _ _).1]; exact h.l1, by rw [(setR_len _ _ _).2, (setR_len _ _ _).2]; exact h.l2, by simp [stepH, h.lo], fun j hj' => ?_, fun _ => ⟨?_, ?_⟩, hge, fun j h1 h2 => ?_⟩
      · rw [setR_told (by omega), setR_told (by omega)]; exact told2 j hj'
      · rw [setR_1 q3, setR_1 q1, if_pos rfl]
        show (if _ then behindC i.c s.high else behindC i.c s.high) = behindC i.c s.high
        simp
      · rw [setR_2 q4, com2 (n + 1) (by omega)]
        by_cases e : n + 1 = t
        · rw [if_pos e, if_pos e, ← e, setR_2 q2, if_pos rfl, setR_1 q1, if_pos rfl]
          rw [show (stepH i n s).high = behindC i.c s.high from rfl, unlike_twice _ hge, hnx.fell hge]
          simp
        · rw [if_neg e, if_neg e, setR_2 q2, if_pos rfl, hnx.fell hge]; rfl
      · rw [setR_1 q3, setR_2 q4, com2 j (by omega)]
        by_cases e : j = t
        · subst e
          rw [if_pos rfl, if_pos rfl, if_pos rfl, setR_2 q2, setR_1 q1, if_neg (show ¬j = n + 1 by omega), if_neg (show ¬j = n + 1 by omega)]
          exact (h.ahead j (by omega) h2).jumped hge
        · rw [if_neg e, if_neg e, if_neg e, setR_2 q2, setR_1 q1, if_neg (by omega), if_neg (by omega)]
          exact h.ahead j (by omega) h2
  · have hend : n + 1 = L.length := by omega
    have he := (hf.ends n i hn).2 hend
    have e1 : stepR i n o = o := by unfold stepR nextR; rw [he]; rfl
    rw [e1]
    exact ⟨h.l1, h.l2, by simp [stepH, h.lo], told2, fun h1 => absurd h1 (by omega), hge, fun j h1 h2 => absurd h2 (by omega)⟩
theorem hei_rel {L : List InsD} (hf : Formed L) : ∀ (k n : Nat) (s : HS) (o : List Int × List Bool), L.length - n = k → n ≤ L.length → RelH L n s o → heiR (L.drop n) n o = heiF (L.drop n) n s
  | 0, n, s, o, hk, hle, h => by
    have e : L.drop n = [] := List.drop_eq_nil_of_le (by omega)
    rw [e]
    show Sum.inr o.1 = Sum.inr s.out
    congr 1
    refine List.ext_getElem? fun j => ?_
    rcases Nat.lt_or_ge j n with h1 | h1
    · exact h.told j h1
    · rw [List.getElem?_eq_none (by rw [h.l1]; omega), List.getElem?_eq_none (by rw [h.lo]; omega)]
  | k + 1, n, s, o, hk, hle, h => by
    have hn : n < L.length := by omega
    rw [List.drop_eq_getElem_cons hn]
    have hi : L[n]? = some L[n] := List.getElem?_eq_getElem hn
    unfold heiR heiF
    rw [bad_eq h hn]
    cases hb : (unlike (s.com n) s.high || badH L[n] s.high) with
    | true => rfl
    | false =>
      simp only [Bool.false_eq_true, if_false]
      exact hei_rel hf k (n + 1) _ _ (by omega) (by omega) (step_rel hf h hi hb)
/-- both tell the same heights -/
theorem hei_eq {L : List InsD} (hf : Formed L) (hL : 0 < L.length) : heiR L 0 ((List.replicate L.length (-1)).set 0 0, List.replicate L.length false) = heiF L 0 hs0 :=
  hei_rel hf L.length 0 hs0 _ (by omega) (by omega) (start_rel L hL)
end Go.Proofs.YtbcajmkmadgbhaaGreatDoor
