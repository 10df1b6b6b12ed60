/- Verify, plain: Dead; what runs is not dead. Verify, plain: Dead round by round. Verify, plain: heights agree from instruction to instruction; what has come to one is as high as told. Verify, plain: a filter that passes, run on any truths: each step stays with what is certain. -/
import Derived.Test.YtbcajmkmadgbhaaGreatDoorVrA
set_option linter.unusedVariables false
namespace Go.Proofs.YtbcajmkmadgbhaaGreatDoor
section
/-- truths: 0 open, 1 yes, 2 no -/
def notT (t : Int) : Int := if t = 1 then 2 else if t = 2 then 1 else 0
def andT (a b : Int) : Int := if a = 2 ∨ b = 2 then 2 else if a = 1 ∧ b = 1 then 1 else 0
/-- what is certain of the stack behind an instruction -/
def behT (c : Nat) (s : List Int) : List Int :=
  if c = 1 then s ++ [1] else if c = 2 then s ++ [2] else if 3 ≤ c ∧ c ≤ 6 then s ++ [0]
  else if c = 7 then s.set (s.length - 1) (notT (s.getD (s.length - 1) 0))
  else if c = 8 then (s.set (s.length - 2) (andT (s.getD (s.length - 2) 0) (s.getD (s.length - 1) 0))).take (s.length - 1)
  else if c = 9 then (s.set (s.length - 2) (notT (andT (notT (s.getD (s.length - 2) 0)) (notT (s.getD (s.length - 1) 0))))).take (s.length - 1)
  else if c = 12 ∨ c = 13 then s.take (s.length - 1) else s
/-- what is certain of two ways -/
def togT (a b : List Int) : List Int := (List.range a.length).map fun i => if a.getD i 0 = b.getD i 0 then a.getD i 0 else 0
def putT (f : Int → Option (List Int)) (n : Int) (s : List Int) : Int → Option (List Int) := fun j => if j = n then some s else f j
def comeT (f : Int → Option (List Int)) (n : Int) (s : List Int) : Int → Option (List Int) := putT f n (match f n with | some a => togT a s | none => s)
def topT (s : List Int) : Int := if 0 < s.length then s.getD (s.length - 1) 0 else 0
def sureT (c : Nat) (s : List Int) : Int := if c = 10 then notT (topT s) else topT s
/-- what an instruction tells those that it goes on to -/
def stepD (i : InsD) (n : Nat) (f : Int → Option (List Int)) (s : List Int) : Int → Option (List Int) :=
  if jumpC i.c then
    if sureT i.c s = 1 then comeT f i.a (behT i.c s) else if sureT i.c s = 2 then comeT f ((n : Int) + 1) (behT i.c s) else comeT (comeT f i.a (behT i.c s)) ((n : Int) + 1) (behT i.c s)
  else comeT f ((n : Int) + 1) (behT i.c s)
/-- .. and those that are dead -/
def deadF : List InsD → Nat → (Int → Option (List Int)) → List Int → List Int
  | [], _, _, d => d
  | i :: r, n, f, d => match f n with
    | none => deadF r (n + 1) f (d ++ [(n : Int)])
    | some s => deadF r (n + 1) (stepD i n f s) d
def ahd0 : Int → Option (List Int) := putT (fun _ => none) 0 []
/-- what has come to instructions when the walk is at n -/
def ahdF (L : List InsD) : Nat → Int → Option (List Int)
  | 0 => ahd0
  | n + 1 => match L[n]? with
    | none => ahdF L n
    | some i => match ahdF L n n with
      | none => ahdF L n
      | some s => stepD i n (ahdF L n) s
/-- is a truth what is certain of it? -/
def OkT (t : Int) (b : Bool) : Prop := t = 0 ∨ (t = 1 ∧ b = true) ∨ (t = 2 ∧ b = false)
/-- a stack is as is certain of it -/
structure AllT (t : List Int) (s : List Bool) : Prop where
  len : t.length = s.length
  ok : ∀ (j : Nat) (a : Int) (b : Bool), t[j]? = some a → s[j]? = some b → OkT a b
theorem AllT.tog {a b : List Int} {s : List Bool} (h : AllT a s) : AllT (togT a b) s := by
  refine ⟨by unfold togT; simp [h.len], fun j x y hx hy => ?_⟩
  unfold togT at hx
  rw [List.getElem?_map] at hx
  have hj : j < a.length := by
    rw [h.len]; exact (List.getElem?_eq_some_iff.1 hy).1
  rw [List.getElem?_range hj] at hx
  have hx' : (if a.getD j 0 = b.getD j 0 then a.getD j 0 else 0) = x := by simpa using hx
  split at hx'
  · subst hx'
    exact h.ok j _ y (by rw [List.getD_eq_getElem?_getD, List.getElem?_eq_getElem hj]; rfl) hy
  · exact Or.inl hx'.symm
/-- what has come once stays, if weaker -/
theorem comeT_keeps {f : Int → Option (List Int)} {n m : Int} {s : List Int} {t : List Int} {b : List Bool} (hf : f m = some t) (ht : AllT t b) : ∃ t', comeT f n s m = some t' ∧ AllT t' b := by
  unfold comeT putT
  by_cases e : m = n
  · subst e
    rw [if_pos rfl, hf]
    exact ⟨_, rfl, ht.tog⟩
  · rw [if_neg e]
    exact ⟨t, hf, ht⟩
theorem stepD_keeps {i : InsD} {n : Nat} {f : Int → Option (List Int)} {s : List Int} {m : Int} {t : List Int} {b : List Bool} (hf : f m = some t) (ht : AllT t b) : ∃ t', stepD i n f s m = some t' ∧ AllT t' b := by
  unfold stepD
  split
  · split
    · exact comeT_keeps hf ht
    · split
      · exact comeT_keeps hf ht
      · obtain ⟨t1, h1, h2⟩ := comeT_keeps (n := i.a) (s := behT i.c s) hf ht
        exact comeT_keeps h1 h2
  · exact comeT_keeps hf ht
theorem ahdF_over {L : List InsD} {n : Nat} (h : L[n]? = none) : ahdF L (n + 1) = ahdF L n := by
  show (match L[n]? with | none => _ | some i => _) = _
  rw [h]
theorem ahdF_dead {L : List InsD} {n : Nat} {i : InsD} (h : L[n]? = some i) (hf : ahdF L n n = none) : ahdF L (n + 1) = ahdF L n := by
  show (match L[n]? with | none => _ | some i => _) = _
  rw [h]; simp only; rw [hf]
theorem ahdF_live {L : List InsD} {n : Nat} {i : InsD} {s : List Int} (h : L[n]? = some i) (hf : ahdF L n n = some s) : ahdF L (n + 1) = stepD i n (ahdF L n) s := by
  show (match L[n]? with | none => _ | some i => _) = _
  rw [h]; simp only; rw [hf]
theorem ahdF_keeps {L : List InsD} {n : Nat} {m : Int} {t : List Int} {b : List Bool} (hf : ahdF L n m = some t) (ht : AllT t b) : ∀ k, ∃ t', ahdF L (n + k) m = some t' ∧ AllT t' b
  | 0 => ⟨t, hf, ht⟩
  | k + 1 => by
    obtain ⟨t1, h1, h2⟩ := ahdF_keeps hf ht k
    show ∃ t', ahdF L (n + k + 1) m = some t' ∧ AllT t' b
    cases hL : L[n + k]? with
    | none => rw [ahdF_over hL]; exact ⟨t1, h1, h2⟩
    | some i =>
      cases hs : ahdF L (n + k) ((n + k : Nat) : Int) with
      | none => rw [ahdF_dead hL hs]; exact ⟨t1, h1, h2⟩
      | some s => rw [ahdF_live hL hs]; exact stepD_keeps h1 h2
theorem comeT_gives {f : Int → Option (List Int)} {n : Int} {s : List Int} {b : List Bool} (hs : AllT s b) (hw : ∀ t, f n = some t → AllT (togT t s) b) : ∃ t', comeT f n s n = some t' ∧ AllT t' b := by
  unfold comeT putT
  rw [if_pos rfl]
  cases hf : f n with
  | none => exact ⟨s, rfl, hs⟩
  | some a => exact ⟨_, rfl, hw a hf⟩
/-- togT from the other side: of what both say, where both are as long -/
theorem AllT.tog2 {a b : List Int} {s : List Bool} (h : AllT b s) (hl : a.length = b.length) : AllT (togT a b) s := by
  refine ⟨by unfold togT; simp [hl, h.len], fun j x y hx hy => ?_⟩
  unfold togT at hx
  rw [List.getElem?_map] at hx
  have hj : j < a.length := by
    rw [hl, h.len]; exact (List.getElem?_eq_some_iff.1 hy).1
  rw [List.getElem?_range hj] at hx
  have hx' : (if a.getD j 0 = b.getD j 0 then a.getD j 0 else 0) = x := by simpa using hx
  split at hx'
  · rename_i e
    rw [e] at hx'
    subst hx'
    exact h.ok j _ y (by rw [List.getD_eq_getElem?_getD, List.getElem?_eq_getElem (by omega)]; rfl) hy
  · exact Or.inl hx'.symm
/-- dead are just those to which nothing has come -/
theorem deadF_mem {L : List InsD} : ∀ (k n : Nat) (d : List Int), L.length - n = k → n ≤ L.length → ∀ x, x ∈ deadF (L.drop n) n (ahdF L n) d → x ∈ d ∨ ∃ m : Nat, n ≤ m ∧ m < L.length ∧ x = m ∧ ahdF L m m = none
  | 0, n, d, hk, hn, x, hx => by
    rw [List.drop_eq_nil_of_le (by omega)] at hx
    exact Or.inl hx
  | k + 1, n, d, hk, hn, x, hx => by
    have hlt : n < L.length := by omega
    rw [List.drop_eq_getElem_cons hlt] at hx
    have hi : L[n]? = some L[n] := List.getElem?_eq_getElem hlt
    unfold deadF at hx
    cases hf : ahdF L n n with
    | none =>
      rw [hf] at hx
      have e := ahdF_dead hi hf
      simp only at hx
      rw [← e] at hx
      rcases deadF_mem k (n + 1) _ (by omega) (by omega) x hx with h | ⟨m, h1, h2, h3, h4⟩
      · rcases List.mem_append.1 h with h | h
        · exact Or.inl h
        · simp at h
          exact Or.inr ⟨n, Nat.le_refl _, hlt, h, hf⟩
      · exact Or.inr ⟨m, by omega, h2, h3, h4⟩
    | some s =>
      rw [hf] at hx
      have e := ahdF_live hi hf
      simp only at hx
      rw [← e] at hx
      rcases deadF_mem k (n + 1) _ (by omega) (by omega) x hx with h | ⟨m, h1, h2, h3, h4⟩
      · exact Or.inl h
      · exact Or.inr ⟨m, by omega, h2, h3, h4⟩
end
section
/-- what one round adds to the dead -/
def deadS (L : List InsD) (n : Nat) (d : List Int) : List Int := match ahdF L n n with
  | none => d ++ [(n : Int)]
  | some _ => d
theorem deadF_round {L : List InsD} {n : Nat} {i : InsD} (h : L[n]? = some i) (d : List Int) : deadF (L.drop n) n (ahdF L n) d = deadF (L.drop (n + 1)) (n + 1) (ahdF L (n + 1)) (deadS L n d) := by
  have hn := (List.getElem?_eq_some_iff.1 h).1
  have hi : L[n] = i := (List.getElem?_eq_some_iff.1 h).2
  rw [List.drop_eq_getElem_cons hn, hi]
  show (match ahdF L n n with | none => _ | some s => _) = _
  unfold deadS
  cases hs : ahdF L n (n : Int) with
  | none => rw [ahdF_dead h hs]
  | some s => rw [ahdF_live h hs]
theorem deadF_last (L : List InsD) (d : List Int) : deadF (L.drop L.length) L.length (ahdF L L.length) d = d := by
  rw [List.drop_length]; rfl
theorem deadS_len (L : List InsD) (n : Nat) (d : List Int) : (deadS L n d).length ≤ d.length + 1 := by
  unfold deadS
  split
  · simp
  · omega
end
section
/-- one step of code whose heights were told -/
structure StepOk (L : List InsD) (hs : List Int) (m : Nat) (i : InsD) (h : Int) : Prop where
  takes : takesC i.c ≤ h
  low : 0 ≤ h
  most : behindC i.c h ≤ 200
  ends : endC i.c = true → behindC i.c h = 0
  falls : endC i.c = false → hs[m + 1]? = some (behindC i.c h)
  jumps : jumpC i.c = true → ∃ t : Nat, i.a = t ∧ m < t ∧ t < L.length ∧ hs[t]? = some (behindC i.c h)
structure HeiAll (L : List InsD) (hs : List Int) (n : Nat) (s : HS) : Prop where
  len : hs.length = L.length
  told : ∀ j, j < n → hs[j]? = s.out[j]?
  now : n < L.length → hs[n]? = some s.high
  com : ∀ m : Nat, n ≤ m → m < L.length → ∀ v, s.com (m : Int) = some v → hs[m]? = some v
  low : ∀ (m : Nat) (h : Int), n ≤ m → hs[m]? = some h → 0 ≤ h
  step : ∀ (m : Nat) (i : InsD) (h : Int), n ≤ m → L[m]? = some i → hs[m]? = some h → StepOk L hs m i h
theorem hei_all {L : List InsD} (hf : Formed L) {hs : List Int} : ∀ (k n : Nat) (s : HS), L.length - n = k → n ≤ L.length → s.out.length = n → 0 ≤ s.high → heiF (L.drop n) n s = .inr hs → HeiAll L hs n s
  | 0, n, s, hk, hn, ho, hh, h => by
    rw [List.drop_eq_nil_of_le (by omega)] at h
    have e : s.out = hs := by unfold heiF at h; injection h
    subst e
    refine ⟨by omega, fun j _ => rfl, fun h => absurd h (by omega), fun m h1 h2 => absurd h2 (by omega), fun m x h1 h2 => ?_, fun m i x h1 h2 => ?_⟩
    · have := (List.getElem?_eq_some_iff.1 h2).1; omega
    · have := (List.getElem?_eq_some_iff.1 h2).1; omega
  | k + 1, n, s, hk, hn, ho, hh, h => by
    have hlt : n < L.length := by omega
    have hi : L[n]? = some L[n] := List.getElem?_eq_getElem hlt
    rw [List.drop_eq_getElem_cons hlt] at h
    generalize L[n] = i at h hi
    unfold heiF at h
    split at h
    · cases h
    · rename_i hb
      have hb' : (unlike (s.com n) s.high || badH i s.high) = false := by simpa using hb
      simp only [Bool.or_eq_false_iff] at hb'
      obtain ⟨hu, hbad⟩ := hb'
      unfold badH at hbad
      simp only [Bool.or_eq_false_iff, decide_eq_false_iff_not] at hbad
      obtain ⟨⟨hb1, hb2⟩, hb3⟩ := hbad
      have htk := takes_le i.c
      have hbe : 0 ≤ behindC i.c s.high := by unfold behindC; omega
      have ih := hei_all hf k (n + 1) (stepH i n s) (by omega) (by omega) (by simp [stepH, ho]) hbe h
      have hnow : hs[n]? = some s.high := by
        rw [ih.told n (by omega)]
        simp [stepH, ho]
      have hstep : StepOk L hs n i s.high := by
        refine ⟨by omega, hh, by omega, fun he => ?_, fun he => ?_, fun hj => ?_⟩
        · rw [he] at hb3
          simpa using hb3
        · have hl : n + 1 < L.length := by
            have := hf.ends n i hi
            rw [he] at this
            simp at this
            omega
          exact ih.now hl
        · obtain ⟨h1, h2⟩ := hf.jumps n i hi hj
          obtain ⟨t, ht⟩ : ∃ t : Nat, i.a = t := ⟨i.a.toNat, by omega⟩
          rw [ht] at h1 h2
          have hc : (stepH i n s).com (t : Int) = some (if unlike ((delF s.com n) i.a) (behindC i.c s.high) then -1 else behindC i.c s.high) := by
            show jumpedF _ _ _ _ = _
            unfold jumpedF
            rw [if_pos hj]
            unfold putF
            rw [if_pos ht.symm]
          have h3 := ih.com t (by omega) (by omega) _ hc
          refine ⟨t, ht, by omega, by omega, ?_⟩
          split at h3
          · have := ih.low t (-1) (by omega) h3
            omega
          · exact h3
      refine ⟨ih.len, fun j hj => ?_, fun _ => hnow, fun m h1 h2 v hv => ?_, fun m x h1 h2 => ?_, fun m i' x h1 h2 h3 => ?_⟩
      · rw [ih.told j (by omega)]
        simp only [stepH]
        rw [List.getElem?_append_left (by omega)]
      · rcases Nat.eq_or_lt_of_le h1 with e | h1'
        · subst e
          rw [hv] at hu
          unfold unlike at hu
          have : v = s.high := by simpa using hu
          rw [this]; exact hnow
        · have hd : delF s.com n (m : Int) = some v := by
            unfold delF
            rw [if_neg (by omega)]
            exact hv
          by_cases hj : jumpC i.c = true
          · by_cases e : (m : Int) = i.a
            · have hc : (stepH i n s).com (m : Int) = some (if unlike ((delF s.com n) i.a) (behindC i.c s.high) then -1 else behindC i.c s.high) := by
                show jumpedF _ _ _ _ = _
                unfold jumpedF
                rw [if_pos hj]
                unfold putF
                rw [if_pos e]
              have h3 := ih.com m (by omega) h2 _ hc
              rw [← e, hd] at h3
              split at h3
              · have := ih.low m (-1) (by omega) h3
                omega
              · rename_i hne
                unfold unlike at hne
                have : v = behindC i.c s.high := by simpa using hne
                rw [this]; exact h3
            · refine ih.com m (by omega) h2 v ?_
              show jumpedF _ _ _ _ = _
              unfold jumpedF
              rw [if_pos hj]
              unfold putF
              rw [if_neg e]
              exact hd
          · refine ih.com m (by omega) h2 v ?_
            show jumpedF _ _ _ _ = _
            unfold jumpedF
            rw [if_neg hj]
            exact hd
      · rcases Nat.eq_or_lt_of_le h1 with e | h1'
        · subst e
          rw [hnow] at h2
          injection h2 with h2
          omega
        · exact ih.low m x h1' h2
      · rcases Nat.eq_or_lt_of_le h1 with e | h1'
        · subst e
          rw [hi] at h2
          injection h2 with h2
          subst h2
          rw [hnow] at h3
          injection h3 with h3
          subst h3
          exact hstep
        · exact ih.step m i' x h1' h2 h3
/-- code whose heights were told -/
theorem hei_ok {L : List InsD} (hf : Formed L) {hs : List Int} (h : heiF L 0 hs0 = .inr hs) : HeiAll L hs 0 hs0 :=
  hei_all hf L.length 0 hs0 (by omega) (by omega) rfl (Int.le_refl 0) h
theorem behT_len {c : Nat} {s : List Int} {h : Int} (hl : (s.length : Int) = h) (ht : takesC c ≤ h) (ho : 1 ≤ c) (ho2 : c ≤ 13) : ((behT c s).length : Int) = behindC c h := by
  unfold behT behindC takesC putsC at *
  have : c = 1 ∨ c = 2 ∨ c = 3 ∨ c = 4 ∨ c = 5 ∨ c = 6 ∨ c = 7 ∨ c = 8 ∨ c = 9 ∨ c = 10 ∨ c = 11 ∨ c = 12 ∨ c = 13 := by omega
  rcases this with rfl | rfl | rfl | rfl | rfl | rfl | rfl | rfl | rfl | rfl | rfl | rfl | rfl <;> simp at ht ⊢ <;> omega
theorem comeT_len {N : Nat} {f : Int → Option (List Int)} {n : Int} {s : List Int} {hs : List Int} (hf : ∀ (m : Nat) t, m < N → f m = some t → hs[m]? = some (t.length : Int)) (hn : ∀ m : Nat, m < N → n = m → hs[m]? = some (s.length : Int)) : ∀ (m : Nat) t, m < N → comeT f n s m = some t → hs[m]? = some (t.length : Int) := by
  intro m t hm ht
  unfold comeT putT at ht
  by_cases e : (m : Int) = n
  · rw [if_pos e] at ht
    injection ht with ht
    cases hfn : f n with
    | none =>
      rw [hfn] at ht
      simp only at ht
      subst ht
      exact hn m hm e.symm
    | some a =>
      rw [hfn] at ht
      simp only at ht
      subst ht
      have h1 := hf m a hm (by rw [e]; exact hfn)
      unfold togT
      simpa using h1
  · rw [if_neg e] at ht
    exact hf m t hm ht
/-- what has come to an instruction is as high as told -/
theorem ahdF_len {L : List InsD} (hf : Formed L) {hs : List Int} (h : heiF L 0 hs0 = .inr hs) (hok : ∀ i ∈ L, okC true i.c = true) (hpos : 0 < L.length) : ∀ (n m : Nat) (t : List Int), m < L.length → ahdF L n m = some t → hs[m]? = some (t.length : Int)
  | 0, m, t, hm, ht => by
    have ha := hei_ok hf h
    change putT (fun _ => none) 0 [] (m : Int) = some t at ht
    unfold putT at ht
    split at ht
    · rename_i e
      have e' : m = 0 := by omega
      subst e'
      injection ht with ht
      subst ht
      exact ha.now hpos
    · cases ht
  | n + 1, m, t, hm, ht => by
    have ha := hei_ok hf h
    have ih := ahdF_len hf h hok hpos n
    cases hL : L[n]? with
    | none => rw [ahdF_over hL] at ht; exact ih m t hm ht
    | some i =>
      have hnl : n < L.length := (List.getElem?_eq_some_iff.1 hL).1
      cases hs' : ahdF L n (n : Int) with
      | none => rw [ahdF_dead hL hs'] at ht; exact ih m t hm ht
      | some s =>
        rw [ahdF_live hL hs'] at ht
        have hn := ih n s hnl hs'
        have hst := ha.step n i _ (Nat.zero_le _) hL hn
        have hc := hok i (List.mem_of_getElem? hL)
        have hc2 : 1 ≤ i.c ∧ i.c ≤ 13 := by unfold okC at hc; simpa using hc
        have hl := behT_len rfl hst.takes hc2.1 hc2.2
        have hfall : ∀ m : Nat, m < L.length → ((n : Int) + 1) = m → hs[m]? = some ((behT i.c s).length : Int) := fun m hm e => by
          have e' : m = n + 1 := by omega
          subst e'
          have he : endC i.c = false := by
            cases he : endC i.c with
            | false => rfl
            | true => have := (hf.ends n i hL).1 he; omega
          rw [hl]; exact hst.falls he
        have hjmp : jumpC i.c = true → ∀ m : Nat, m < L.length → i.a = m → hs[m]? = some ((behT i.c s).length : Int) := fun hj m _ e => by
          obtain ⟨q, h1, _, _, h2⟩ := hst.jumps hj
          have e' : m = q := by omega
          subst e'
          rw [hl]; exact h2
        unfold stepD at ht
        by_cases hj : jumpC i.c = true
        · rw [if_pos hj] at ht
          split at ht
          · exact comeT_len ih (hjmp hj) m t hm ht
          · split at ht
            · exact comeT_len ih hfall m t hm ht
            · exact comeT_len (comeT_len ih (hjmp hj)) hfall m t hm ht
        · rw [if_neg hj] at ht
          exact comeT_len ih hfall m t hm ht
end
section
/-- the stack behind an instruction, q what a push asks -/
def runT (c : Nat) (q : Bool) (s : List Bool) : List Bool :=
  if c = 1 then s ++ [true] else if c = 2 then s ++ [false] else if 3 ≤ c ∧ c ≤ 6 then s ++ [q]
  else if c = 7 then s.take (s.length - 1) ++ [!s.getD (s.length - 1) false]
  else if c = 8 then s.take (s.length - 2) ++ [s.getD (s.length - 2) false && s.getD (s.length - 1) false]
  else if c = 9 then s.take (s.length - 2) ++ [s.getD (s.length - 2) false || s.getD (s.length - 1) false]
  else if c = 12 ∨ c = 13 then s.take (s.length - 1) else s
theorem OkT.not {t : Int} {b : Bool} (h : OkT t b) : OkT (notT t) (!b) := by
  rcases h with rfl | ⟨rfl, rfl⟩ | ⟨rfl, rfl⟩
  · exact Or.inl rfl
  · exact Or.inr (Or.inr ⟨rfl, rfl⟩)
  · exact Or.inr (Or.inl ⟨rfl, rfl⟩)
theorem OkT.and {t u : Int} {a b : Bool} (h : OkT t a) (k : OkT u b) : OkT (andT t u) (a && b) := by
  rcases h with rfl | ⟨rfl, rfl⟩ | ⟨rfl, rfl⟩ <;> rcases k with rfl | ⟨rfl, rfl⟩ | ⟨rfl, rfl⟩ <;> simp [andT, OkT]
theorem OkT.or {t u : Int} {a b : Bool} (h : OkT t a) (k : OkT u b) : OkT (notT (andT (notT t) (notT u))) (a || b) := by
  have := (h.not.and k.not).not
  simpa using this
theorem AllT.at {t : List Int} {s : List Bool} (h : AllT t s) {j : Nat} (hj : j < s.length) : OkT (t.getD j 0) (s.getD j false) := by
  have hj' : j < t.length := by rw [h.len]; exact hj
  rw [List.getD_eq_getElem?_getD, List.getD_eq_getElem?_getD, List.getElem?_eq_getElem hj, List.getElem?_eq_getElem hj']
  exact h.ok j _ _ (List.getElem?_eq_getElem hj') (List.getElem?_eq_getElem hj)
theorem AllT.snoc {t : List Int} {s : List Bool} (h : AllT t s) {x : Int} {b : Bool} (hx : OkT x b) : AllT (t ++ [x]) (s ++ [b]) := by
  refine ⟨by simp [h.len], fun j u v hu hv => ?_⟩
  rcases Nat.lt_or_ge j s.length with h1 | h1
  · rw [List.getElem?_append_left (by rw [h.len]; exact h1)] at hu
    rw [List.getElem?_append_left h1] at hv
    exact h.ok j u v hu hv
  · rw [List.getElem?_append_right (by rw [h.len]; exact h1), h.len] at hu
    rw [List.getElem?_append_right h1] at hv
    have : j - s.length = 0 := by
      have := (List.getElem?_eq_some_iff.1 hv).1
      simp at this
      omega
    rw [this] at hu hv
    simp at hu hv
    subst hu hv
    exact hx
theorem AllT.take {t : List Int} {s : List Bool} (h : AllT t s) (k : Nat) : AllT (t.take k) (s.take k) := by
  refine ⟨by simp [h.len], fun j u v hu hv => ?_⟩
  rw [List.getElem?_take] at hu hv
  split at hu
  · rename_i hj
    rw [if_pos hj] at hv
    exact h.ok j u v hu hv
  · cases hu
theorem set_last {t : List Int} {k : Nat} {x : Int} (h : k < t.length) : (t.set k x).take (k + 1) = t.take k ++ [x] := by
  rw [List.take_succ_eq_append_getElem (by simpa using h), List.getElem_set_self, List.take_set_of_le (Nat.le_refl _)]
theorem behT_ok {c : Nat} {t : List Int} {s : List Bool} (q : Bool) (h : AllT t s) (hc1 : 1 ≤ c) (hc2 : c ≤ 13) (ht : takesC c ≤ s.length) : AllT (behT c t) (runT c q s) := by
  have hcs : c = 1 ∨ c = 2 ∨ (3 ≤ c ∧ c ≤ 6) ∨ c = 7 ∨ c = 8 ∨ c = 9 ∨ c = 10 ∨ c = 11 ∨ c = 12 ∨ c = 13 := by omega
  rcases hcs with rfl | rfl | hc | rfl | rfl | rfl | rfl | rfl | rfl | rfl
  · exact h.snoc (Or.inr (Or.inl ⟨rfl, rfl⟩))
  · exact h.snoc (Or.inr (Or.inr ⟨rfl, rfl⟩))
  · have e1 : behT c t = t ++ [0] := by unfold behT; rw [if_neg (by omega), if_neg (by omega), if_pos hc]
    have e2 : runT c q s = s ++ [q] := by unfold runT; rw [if_neg (by omega), if_neg (by omega), if_pos hc]
    rw [e1, e2]
    exact h.snoc (Or.inl rfl)
  · have hl : 1 ≤ s.length := by unfold takesC at ht; simp at ht; omega
    have e1 : behT 7 t = t.take (s.length - 1) ++ [notT (t.getD (s.length - 1) 0)] := by
      show t.set (t.length - 1) (notT (t.getD (t.length - 1) 0)) = _
      rw [h.len, ← set_last (by rw [h.len]; omega), List.take_of_length_le (by simp [h.len]; omega)]
    rw [e1]
    exact (h.take _).snoc (h.at (by omega)).not
  · have hl : 2 ≤ s.length := by unfold takesC at ht; simp at ht; omega
    have e1 : behT 8 t = t.take (s.length - 2) ++ [andT (t.getD (s.length - 2) 0) (t.getD (s.length - 1) 0)] := by
      show (t.set (t.length - 2) (andT (t.getD (t.length - 2) 0) (t.getD (t.length - 1) 0))).take (t.length - 1) = _
      rw [h.len, show s.length - 1 = s.length - 2 + 1 by omega, set_last (by rw [h.len]; omega)]
    rw [e1]
    exact (h.take _).snoc ((h.at (by omega)).and (h.at (by omega)))
  · have hl : 2 ≤ s.length := by unfold takesC at ht; simp at ht; omega
    have e1 : behT 9 t = t.take (s.length - 2) ++ [notT (andT (notT (t.getD (s.length - 2) 0)) (notT (t.getD (s.length - 1) 0)))] := by
      show (t.set (t.length - 2) (notT (andT (notT (t.getD (t.length - 2) 0)) (notT (t.getD (t.length - 1) 0))))).take (t.length - 1) = _
      rw [h.len, show s.length - 1 = s.length - 2 + 1 by omega, set_last (by rw [h.len]; omega)]
    rw [e1]
    exact (h.take _).snoc ((h.at (by omega)).or (h.at (by omega)))
  · exact h
  · exact h
  · have e1 : behT 12 t = t.take (s.length - 1) := by
      show t.take (t.length - 1) = _
      rw [h.len]
    rw [e1]
    exact h.take _
  · have e1 : behT 13 t = t.take (s.length - 1) := by
      show t.take (t.length - 1) = _
      rw [h.len]
    rw [e1]
    exact h.take _
/-- does an instruction jump, with this stack? -/
def takenB (c : Nat) (s : List Bool) : Bool := jumpC c && (s.getD (s.length - 1) false == (c == 11))
/-- where the run goes on -/
def nextT (i : InsD) (n : Nat) (s : List Bool) : Nat := if takenB i.c s then i.a.toNat else n + 1
/-- what is known of a filter that passes -/
structure PassF (L : List InsD) (hs : List Int) : Prop where
  formed : Formed L
  pos : 0 < L.length
  ok : ∀ i ∈ L, okC true i.c = true
  hei : heiF L 0 hs0 = .inr hs
/-- the run at an instruction -/
structure RunAt (L : List InsD) (hs : List Int) (n : Nat) (s : List Bool) : Prop where
  lt : n < L.length
  has : ∃ t, ahdF L n n = some t ∧ AllT t s
  high : hs[n]? = some (s.length : Int)
theorem run_start {L : List InsD} {hs : List Int} (h : PassF L hs) : RunAt L hs 0 [] :=
  ⟨h.pos, ⟨[], rfl, ⟨rfl, fun j a b ha => by simp at ha⟩⟩, by have := (hei_ok h.formed h.hei).now h.pos; exact this⟩
theorem run_takes {L : List InsD} {hs : List Int} {n : Nat} {s : List Bool} {i : InsD} (h : PassF L hs) (hr : RunAt L hs n s) (hi : L[n]? = some i) : StepOk L hs n i (s.length : Int) ∧ 1 ≤ i.c ∧ i.c ≤ 13 := by
  have hc := h.ok i (List.mem_of_getElem? hi)
  have hc2 : 1 ≤ i.c ∧ i.c ≤ 13 := by unfold okC at hc; simpa using hc
  exact ⟨(hei_ok h.formed h.hei).step n i _ (Nat.zero_le _) hi hr.high, hc2⟩
theorem run_step {L : List InsD} {hs : List Int} {n : Nat} {s : List Bool} {i : InsD} (q : Bool) (h : PassF L hs) (hr : RunAt L hs n s) (hi : L[n]? = some i) (hne : i.c ≠ 13) : RunAt L hs (nextT i n s) (runT i.c q s) ∧ n < nextT i n s := by
  obtain ⟨hst, hc1, hc2⟩ := run_takes h hr hi
  obtain ⟨t, ht, ha⟩ := hr.has
  have hbe := behT_ok q ha hc1 hc2 hst.takes
  have hend : endC i.c = false := by unfold endC; simp; omega
  have hnl : n + 1 < L.length := by
    have h1 := h.formed.ends n i hi
    rw [hend] at h1
    have h2 := hr.lt
    simp at h1
    omega
  have hbl : (runT i.c q s).length = (behT i.c t).length := hbe.len.symm
  have hlen : ((behT i.c t).length : Int) = behindC i.c (s.length : Int) := behT_len (by rw [ha.len]) hst.takes hc1 hc2
  have hl0 := ahdF_len h.formed h.hei h.ok h.pos n
  -- whatever has come to m already is as high
  have key : ∀ (m : Nat) (f : Int → Option (List Int)), m < L.length → hs[m]? = some (behindC i.c (s.length : Int)) → (∀ x, f m = some x → hs[m]? = some (x.length : Int)) → ∃ t', comeT f m (behT i.c t) m = some t' ∧ AllT t' (runT i.c q s) := fun m f hm hh hf =>
    comeT_gives hbe fun x hx => hbe.tog2 (by
      have h1 := hf x hx
      rw [hh] at h1
      injection h1 with h1
      omega)
  by_cases hj : jumpC i.c = true
  · obtain ⟨tt, hat, ht1, ht2, hth⟩ := hst.jumps hj
    have hsure : OkT (sureT i.c t) (if i.c = 10 then !s.getD (s.length - 1) false else s.getD (s.length - 1) false) := by
      have hl : 1 ≤ s.length := by
        have := hst.takes
        unfold jumpC at hj
        unfold takesC at this
        simp at hj
        rcases hj with e | e <;> rw [e] at this <;> simp at this <;> omega
      have htop : topT t = t.getD (s.length - 1) 0 := by unfold topT; rw [if_pos (by rw [ha.len]; omega), ha.len]
      unfold sureT
      split
      · rw [htop]; exact (ha.at (by omega)).not
      · rw [htop]; exact ha.at (by omega)
    have htk : takenB i.c s = (if i.c = 10 then !s.getD (s.length - 1) false else s.getD (s.length - 1) false) := by
      unfold takenB
      rw [hj]
      unfold jumpC at hj
      simp at hj
      rcases hj with e | e
      · rw [e]; simp
      · rw [e]; simp
    rw [← htk] at hsure
    unfold nextT
    cases htb : takenB i.c s with
    | true =>
      rw [htb] at hsure
      have hs2 : sureT i.c t ≠ 2 := by rcases hsure with e | ⟨e, _⟩ | ⟨_, e⟩ <;> first | omega | cases e
      have hgot : ∃ t', ahdF L (n + 1) (tt : Int) = some t' ∧ AllT t' (runT i.c q s) := by
        rw [ahdF_live hi ht]
        unfold stepD
        rw [if_pos hj, hat]
        split
        · exact key tt _ ht2 hth (fun x hx => hl0 tt x ht2 hx)
        · try rw [if_neg hs2]
          obtain ⟨t', h1, h2⟩ := key tt (ahdF L n) ht2 hth (fun x hx => hl0 tt x ht2 hx)
          exact comeT_keeps h1 h2
      rw [if_pos rfl, hat]
      obtain ⟨t', h1, h2⟩ := hgot
      obtain ⟨t2, h3, h4⟩ := ahdF_keeps h1 h2 (tt - (n + 1))
      rw [show n + 1 + (tt - (n + 1)) = tt by omega] at h3
      have e : (tt : Int).toNat = tt := by omega
      rw [e]
      exact ⟨⟨ht2, ⟨t2, h3, h4⟩, by rw [hth, hbl, hlen]⟩, ht1⟩
    | false =>
      rw [htb] at hsure
      have hs1 : sureT i.c t ≠ 1 := by rcases hsure with e | ⟨_, e⟩ | ⟨e, _⟩ <;> first | omega | cases e
      have hfall := hst.falls hend
      have hgot : ∃ t', ahdF L (n + 1) ((n : Int) + 1) = some t' ∧ AllT t' (runT i.c q s) := by
        rw [ahdF_live hi ht]
        unfold stepD
        rw [if_pos hj, if_neg hs1]
        have e : ((n : Int) + 1) = ((n + 1 : Nat) : Int) := by omega
        split
        · rw [e]; exact key (n + 1) _ hnl hfall (fun x hx => hl0 (n + 1) x hnl hx)
        · rw [e]
          exact key (n + 1) _ hnl hfall (fun x hx => comeT_len (N := L.length) (s := behT i.c t) (fun m t' hm h => hl0 m t' hm h) (fun m hm e => by
            have : m = tt := by rw [hat] at e; omega
            subst this
            rw [hth, hlen]) (n + 1) x hnl hx)
      rw [if_neg (by simp)]
      obtain ⟨t', h1, h2⟩ := hgot
      exact ⟨⟨hnl, ⟨t', by rw [show ((n + 1 : Nat) : Int) = (n : Int) + 1 by omega]; exact h1, h2⟩, by rw [hfall, hbl, hlen]⟩, by omega⟩
  · have hfall := hst.falls hend
    have hgot : ∃ t', ahdF L (n + 1) ((n : Int) + 1) = some t' ∧ AllT t' (runT i.c q s) := by
      rw [ahdF_live hi ht]
      unfold stepD
      rw [if_neg hj, show ((n : Int) + 1) = ((n + 1 : Nat) : Int) by omega]
      exact key (n + 1) _ hnl hfall (fun x hx => hl0 (n + 1) x hnl hx)
    have htb : takenB i.c s = false := by unfold takenB; simp [hj]
    unfold nextT
    rw [htb, if_neg (by simp)]
    obtain ⟨t', h1, h2⟩ := hgot
    exact ⟨⟨hnl, ⟨t', by rw [show ((n + 1 : Nat) : Int) = (n : Int) + 1 by omega]; exact h1, h2⟩, by rw [hfall, hbl, hlen]⟩, by omega⟩
/-- the end: one truth is left -/
theorem run_end {L : List InsD} {hs : List Int} {n : Nat} {s : List Bool} {i : InsD} (h : PassF L hs) (hr : RunAt L hs n s) (hi : L[n]? = some i) (he : i.c = 13) : s.length = 1 := by
  obtain ⟨hst, _, _⟩ := run_takes h hr hi
  have := hst.ends (by rw [he]; rfl)
  rw [he] at this
  unfold behindC takesC putsC at this
  simp at this
  omega
end
end Go.Proofs.YtbcajmkmadgbhaaGreatDoor
