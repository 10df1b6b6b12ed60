/- Plain: tags sorted by putting each into its place. key.Sort. The document's Sort. -/
import Derived.Test.YtbaopcpmmdmomaaGreatDoorKeyTe
import Derived.Laws.OwnMore
set_option linter.unusedSimpArgs false
set_option linter.unusedVariables false
namespace Go.Proofs.YtbaopcpmmdmomaaGreatDoor
section
open Go.RowKit
theorem cmpL_lt (a b : List UInt8) : cmpL a b < 0 ↔ Op.bytesLess a b = true := by
  unfold cmpL
  constructor
  · intro h
    cases hb : Op.bytesLess a b
    · rw [hb] at h; simp only [Bool.false_eq_true, if_false] at h; split at h <;> omega
    · rfl
  · intro h; rw [h]; simp
theorem cmpL_zero {a b : List UInt8} (h : cmpL a b = 0) : a = b := by
  unfold cmpL at h
  split at h
  · omega
  · split at h
    · rename_i h2; simpa using h2
    · omega
theorem cmpL_same (a : List UInt8) : cmpL a a = 0 := by have := cmpL_good.anti a a; omega
/-- the tags ahead of a key's place, those from there on -/
def headT (ps : List (List UInt8 × List UInt8)) (k : List UInt8) : List (List UInt8 × List UInt8) := ps.takeWhile fun p => Op.bytesLess p.1 k
def tailT (ps : List (List UInt8 × List UInt8)) (k : List UInt8) : List (List UInt8 × List UInt8) := ps.dropWhile fun p => Op.bytesLess p.1 k
theorem headT_tailT (ps : List (List UInt8 × List UInt8)) (k : List UInt8) : headT ps k ++ tailT ps k = ps := List.takeWhile_append_dropWhile
def posT (ps : List (List UInt8 × List UInt8)) (k : List UInt8) : Nat := (headT ps k).length
/-- a tag put into its place -/
def putT (ps : List (List UInt8 × List UInt8)) (k v : List UInt8) : List (List UInt8 × List UInt8) :=
  match tailT ps k with
  | [] => headT ps k ++ [(k, v)]
  | d :: r => if d.1 = k then headT ps k ++ (k, v) :: r else headT ps k ++ (k, v) :: d :: r
def srtT (tk tv : Nat → List UInt8) : Nat → List (List UInt8 × List UInt8)
  | 0 => []
  | j + 1 => putT (srtT tk tv j) (tk j) (tv j)
/-- in order, no key twice -/
def Srt (ps : List (List UInt8 × List UInt8)) : Prop := (ps.map Prod.fst).Pairwise fun a b => cmpL a b < 0
theorem mem_tw {α : Type} {q : α → Bool} {x : α} : ∀ {l : List α}, x ∈ l.takeWhile q → q x = true
  | [], h => by simp at h
  | a :: l, h => by
    rw [List.takeWhile_cons] at h
    split at h
    · rename_i ha
      rcases List.mem_cons.1 h with rfl | h
      · exact ha
      · exact mem_tw h
    · simp at h
theorem headT_lo {ps : List (List UInt8 × List UInt8)} {k : List UInt8} {p : List UInt8 × List UInt8} (h : p ∈ headT ps k) : cmpL p.1 k < 0 := by
  rw [cmpL_lt]
  unfold headT at h
  exact mem_tw (q := fun p : List UInt8 × List UInt8 => Op.bytesLess p.1 k) h
theorem tailT_hd {ps : List (List UInt8 × List UInt8)} {k : List UInt8} {d : List UInt8 × List UInt8} {r : List (List UInt8 × List UInt8)} (h : tailT ps k = d :: r) : 0 ≤ cmpL d.1 k := by
  unfold tailT at h
  have := List.head?_dropWhile_not (fun p : List UInt8 × List UInt8 => Op.bytesLess p.1 k) ps
  rw [h] at this
  simp only [List.head?_cons] at this
  rcases (show cmpL d.1 k < 0 ∨ 0 ≤ cmpL d.1 k by omega) with h1 | h1
  · rw [cmpL_lt] at h1; rw [h1] at this; simp at this
  · exact h1
theorem tri_lt {a b c : List UInt8} (h1 : cmpL a b < 0) (h2 : cmpL b c < 0) : cmpL a c < 0 := by
  have := (cmpL_good.tri a b c).lt1
  omega
theorem tailT_hi {ps : List (List UInt8 × List UInt8)} {k : List UInt8} (hs : Srt ps) : ∀ p ∈ tailT ps k, 0 ≤ cmpL p.1 k := by
  cases ht : tailT ps k with
  | nil => intro p hp; cases hp
  | cons d r =>
    have h0 := tailT_hd ht
    have hp := headT_tailT ps k
    rw [ht] at hp
    unfold Srt at hs
    rw [← hp, List.map_append, List.map_cons, List.pairwise_append, List.pairwise_cons] at hs
    intro p hmem
    rcases List.mem_cons.1 hmem with rfl | hr
    · exact h0
    · have h1 := hs.2.1.1 p.1 (List.mem_map_of_mem hr)
      have := (cmpL_good.tri d.1 p.1 k)
      have a1 := cmpL_good.anti p.1 k
      have a2 := cmpL_good.anti d.1 k
      rcases (show cmpL p.1 k < 0 ∨ 0 ≤ cmpL p.1 k by omega) with h2 | h2
      · have := tri_lt h1 h2; omega
      · exact h2
theorem putT_srt {ps : List (List UInt8 × List UInt8)} {k v : List UInt8} (hs : Srt ps) : Srt (putT ps k v) := by
  have hi := tailT_hi (k := k) hs
  have hp := headT_tailT ps k
  have hlo := fun p => headT_lo (ps := ps) (k := k) (p := p)
  unfold putT
  generalize headT ps k = H at *
  generalize tailT ps k = T at *
  subst hp
  unfold Srt at hs ⊢
  rw [List.map_append, List.pairwise_append] at hs
  obtain ⟨h1, h2, h3⟩ := hs
  have hHk : ∀ a ∈ H.map Prod.fst, cmpL a k < 0 := fun a ha => by
    obtain ⟨p, hp, rfl⟩ := List.mem_map.1 ha
    exact hlo p hp
  cases T with
  | nil =>
    simp only [List.map_append, List.map_cons, List.map_nil]
    rw [List.pairwise_append]
    exact ⟨h1, List.pairwise_singleton _ _, fun a ha b hb => by rw [List.mem_singleton] at hb; subst hb; exact hHk a ha⟩
  | cons d r =>
    simp only
    split
    · rename_i hd
      rw [List.map_append, List.pairwise_append, List.map_cons]
      rw [List.map_cons, hd] at h2 h3
      exact ⟨h1, h2, h3⟩
    · rename_i hd
      have hdk : cmpL k d.1 < 0 := by
        have h4 := hi d (by simp)
        have a1 := cmpL_good.anti k d.1
        rcases (show 0 < cmpL d.1 k ∨ cmpL d.1 k ≤ 0 by omega) with h5 | h5
        · omega
        · exact absurd (cmpL_zero (show cmpL d.1 k = 0 by omega)) hd
      simp only [List.map_append, List.map_cons]
      rw [List.map_cons] at h2 h3
      rw [List.pairwise_append, List.pairwise_cons]
      refine ⟨h1, ⟨fun a ha => ?_, h2⟩, fun a ha b hb => ?_⟩
      · rcases List.mem_cons.1 ha with rfl | ha
        · exact hdk
        · exact tri_lt hdk ((List.pairwise_cons.1 h2).1 a ha)
      · rcases List.mem_cons.1 hb with rfl | hb
        · exact hHk a ha
        · exact h3 a ha b hb
theorem srtT_srt (tk tv : Nat → List UInt8) (j : Nat) : Srt (srtT tk tv j) := by
  induction j with
  | zero => exact List.Pairwise.nil
  | succ j ih => exact putT_srt ih
theorem putT_len (ps : List (List UInt8 × List UInt8)) (k v : List UInt8) : (putT ps k v).length ≤ ps.length + 1 := by
  have h := congrArg List.length (headT_tailT ps k)
  rw [List.length_append] at h
  unfold putT
  cases ht : tailT ps k with
  | nil => rw [ht] at h; simp at h ⊢; omega
  | cons d r =>
    rw [ht] at h
    simp only
    split <;> simp at h ⊢ <;> omega
theorem srtT_len (tk tv : Nat → List UInt8) (j : Nat) : (srtT tk tv j).length ≤ j := by
  induction j with
  | zero => simp [srtT]
  | succ j ih => have := putT_len (srtT tk tv j) (tk j) (tv j); show (putT _ _ _).length ≤ _; omega
theorem putT_mem {ps : List (List UInt8 × List UInt8)} {k v : List UInt8} {P : List UInt8 × List UInt8 → Prop} (h : ∀ p ∈ ps, P p) (hk : P (k, v)) : ∀ p ∈ putT ps k v, P p := by
  have hp := headT_tailT ps k
  intro p hm
  have hH : ∀ q ∈ headT ps k, P q := fun q hq => h q (by rw [← hp]; simp [hq])
  have hT : ∀ q ∈ tailT ps k, P q := fun q hq => h q (by rw [← hp]; simp [hq])
  unfold putT at hm
  cases ht : tailT ps k with
  | nil => rw [ht] at hm; simp at hm; rcases hm with h1 | rfl; exact hH p h1; exact hk
  | cons d r =>
    rw [ht] at hm hT
    simp only at hm
    split at hm
    · simp at hm; rcases hm with h1 | rfl | h1; exact hH p h1; exact hk; exact hT p (by simp [h1])
    · simp at hm; rcases hm with h1 | rfl | rfl | h1; exact hH p h1; exact hk; exact hT _ (by simp); exact hT p (by simp [h1])
theorem tagC_app (a b : List (List UInt8 × List UInt8)) : tagC (a ++ b) = tagC a ++ tagC b := by simp [tagC]
theorem tagC_take (ps : List (List UInt8 × List UInt8)) (k : List UInt8) : (tagC ps).take (posT ps k * 2) = tagC (headT ps k) ∧ (tagC ps).drop (posT ps k * 2) = tagC (tailT ps k) := by
  have h : tagC ps = tagC (headT ps k) ++ tagC (tailT ps k) := by rw [← tagC_app, headT_tailT]
  have hl := tagC_len (headT ps k)
  unfold posT
  rw [h]
  exact ⟨List.take_left' hl, List.drop_left' hl⟩
end
section
open Go.RowKit
theorem no_row (v : Value) : v.ownBlock = none ∨ v.ownBlock ≠ none := by cases v.ownBlock <;> simp
theorem pos_le (ps : List (List UInt8 × List UInt8)) (k : List UInt8) : posT ps k ≤ ps.length := by
  have h := congrArg List.length (headT_tailT ps k)
  rw [List.length_append] at h
  unfold posT; omega
theorem pos_lo (ps : List (List UInt8 × List UInt8)) (k : List UInt8) : ∀ i, i < posT ps k → cmpL (ps.getD i ([], [])).1 k < 0 := fun i hi => by
  have h := headT_tailT ps k
  have e : ps.getD i ([], []) = (headT ps k).getD i ([], []) := by
    conv => lhs; rw [← h]
    rw [List.getD_eq_getElem?_getD, List.getD_eq_getElem?_getD, List.getElem?_append_left hi]
  rw [e, List.getD_eq_getElem?_getD, List.getElem?_eq_getElem hi]
  exact headT_lo (List.getElem_mem hi)
theorem pos_hi {ps : List (List UInt8 × List UInt8)} {k : List UInt8} (hs : Srt ps) : ∀ i, posT ps k ≤ i → i < ps.length → 0 ≤ cmpL (ps.getD i ([], [])).1 k := fun i hi hl => by
  have h := headT_tailT ps k
  have hl2 := congrArg List.length h
  rw [List.length_append] at hl2
  have hj : i - posT ps k < (tailT ps k).length := by unfold posT at *; omega
  have e : ps.getD i ([], []) = (tailT ps k).getD (i - posT ps k) ([], []) := by
    conv => lhs; rw [← h]
    rw [List.getD_eq_getElem?_getD, List.getD_eq_getElem?_getD, List.getElem?_append_right hi]
    rfl
  rw [e, List.getD_eq_getElem?_getD, List.getElem?_eq_getElem hj]
  exact tailT_hi hs _ (List.getElem_mem hj)
/-- is the key there? -/
def hasT (ps : List (List UInt8 × List UInt8)) (k : List UInt8) : Bool := decide (posT ps k < ps.length) && cmpL (ps.getD (posT ps k) ([], [])).1 k == 0
theorem has_tail (ps : List (List UInt8 × List UInt8)) (k : List UInt8) : (hasT ps k = true → ∃ d r, tailT ps k = d :: r ∧ d.1 = k) ∧ (hasT ps k = false → tailT ps k = [] ∨ ∃ d r, tailT ps k = d :: r ∧ d.1 ≠ k) := by
  have h := headT_tailT ps k
  have hl := congrArg List.length h
  rw [List.length_append] at hl
  unfold hasT
  cases ht : tailT ps k with
  | nil =>
    rw [ht, List.length_nil] at hl
    have : ¬ posT ps k < ps.length := by unfold posT; omega
    simp [this]
  | cons d r =>
    rw [ht, List.length_cons] at hl
    have h1 : posT ps k < ps.length := by unfold posT; omega
    have e : ps.getD (posT ps k) ([], []) = d := by
      conv => lhs; arg 1; rw [← h, ht]
      rw [show posT ps k = (headT ps k).length from rfl, List.getD_eq_getElem?_getD, List.getElem?_append_right (Nat.le_refl _)]
      simp
    rw [e]
    simp only [h1, decide_true, Bool.true_and]
    by_cases hd : d.1 = k
    · rw [hd, cmpL_same]
      exact ⟨fun _ => ⟨d, r, rfl, hd⟩, fun h => by simp at h⟩
    · have : (cmpL d.1 k == 0) = false := by
        cases hc : (cmpL d.1 k == 0) with
        | false => rfl
        | true => exact absurd (cmpL_zero (by simpa using hc)) hd
      rw [this]
      exact ⟨fun h => by simp at h, fun _ => .inr ⟨d, r, rfl, hd⟩⟩
theorem put_here {ps : List (List UInt8 × List UInt8)} {k v : List UInt8} (h : hasT ps k = true) : posT ps k < ps.length ∧ (putT ps k v).length = ps.length ∧ ((tagC ps).set (posT ps k * 2) (strV k)).set (posT ps k * 2 + 1) (strV v) = tagC (putT ps k v) := by
  obtain ⟨d, r, ht, hd⟩ := (has_tail ps k).1 h
  have hp := headT_tailT ps k
  have hl := congrArg List.length hp
  rw [ht, List.length_append, List.length_cons] at hl
  have h1 : posT ps k < ps.length := by unfold posT; omega
  have e : putT ps k v = headT ps k ++ (k, v) :: r := by unfold putT; rw [ht]; simp [hd]
  refine ⟨h1, by rw [e, List.length_append, List.length_cons]; omega, ?_⟩
  rw [e]
  have hH := tagC_len (headT ps k)
  have hpo : posT ps k * 2 = (tagC (headT ps k)).length := by unfold posT; omega
  rw [hpo]
  clear hpo h1 hl e
  generalize headT ps k = H at *
  rw [← hp, ht]
  rw [tagC_app, tagC_app, show tagC (d :: r) = strV d.1 :: strV d.2 :: tagC r by simp [tagC], show tagC ((k, v) :: r) = strV k :: strV v :: tagC r by simp [tagC]]
  rw [List.set_append_right _ _ (by omega), List.set_append_right _ _ (by omega)]
  congr 1
  rw [Nat.sub_self, Nat.add_sub_cancel_left]
  rfl
theorem put_new {ps : List (List UInt8 × List UInt8)} {k v : List UInt8} (h : hasT ps k = false) : (putT ps k v).length = ps.length + 1 ∧ (tagC ps).take (posT ps k * 2) ++ [strV k, strV v] ++ (tagC ps).drop (posT ps k * 2) = tagC (putT ps k v) := by
  have hp := headT_tailT ps k
  have hl := congrArg List.length hp
  rw [List.length_append] at hl
  have e : putT ps k v = headT ps k ++ (k, v) :: tailT ps k := by
    unfold putT
    rcases (has_tail ps k).2 h with ht | ⟨d, r, ht, hd⟩
    · rw [ht]
    · rw [ht]; simp [hd]
  obtain ⟨t1, t2⟩ := tagC_take ps k
  refine ⟨by rw [e, List.length_append, List.length_cons]; omega, ?_⟩
  rw [t1, t2, e, tagC_app, show tagC ((k, v) :: tailT ps k) = strV k :: strV v :: tagC (tailT ps k) by simp [tagC]]
  simp
set_option maxHeartbeats 4000000 in
set_option maxRecDepth 100000 in
theorem ksort_any (A : Option Addr) (n cap : Nat) (tk tv : Nat → List UInt8) (w : World) (hr : TagRow w A n tk tv) (hn : n ≤ 1048576) :
    Calls Tryz.prog 6 #[.slice A n cap] w fun e w' => ∃ v', e = .returned v' ∧ w'.ownsRow w.heap.size 70 2 v' (srtT tk tv n).length (tagC (srtT tk tv n)) ∧ Below w.heap.size w w' := by
  have HR : Bx _ := ⟨hr⟩
  obtain ⟨Z, hZ⟩ : ∃ Z, srtT tk tv n = Z := ⟨_, rfl⟩
  rw [hZ]
  have HZ : Bx _ := ⟨hZ⟩
  clear hr hZ
  go_enter Tryz.func6, Tryz.ntmps6
  go_wp2_with fail
  go_loopw [3, 10] (fun o i wr => ∃ (k : Nat), k ≤ n ∧ i = .int .i64 k ∧ ∃ ps, Bx (srtT tk tv k = ps ∧ Below w.heap.size w wr ∧ wr.ownsRow w.heap.size 70 2 o ps.length (tagC ps))) (fun _ i _ => n - (intOf i).toNat)
  case atStart => exact ⟨0, by omega, rfl, [], ⟨rfl, Below.refl _ _, World.ownsRow_nil _ _ _ _⟩⟩
  case round =>
    obtain ⟨k, hk, rfl, ps, HI⟩ := hrel
    by_cases hlt : k < n
    · obtain ⟨b, off, rfl, hrow⟩ := (HR.out.below HI.out.2.1).row (by omega)
      obtain ⟨r0, r1⟩ := hrow k hlt
      obtain ⟨K, hK⟩ : ∃ K, tk k = K := ⟨_, rfl⟩
      obtain ⟨V, hV⟩ : ∃ V, tv k = V := ⟨_, rfl⟩
      rw [hK] at r0
      rw [hV] at r1
      have HN : Bx (srtT tk tv (k + 1) = putT ps K V) := ⟨by show putT (srtT tk tv k) (tk k) (tv k) = _; rw [HI.out.1, hK, hV]⟩
      have HL : Bx (ps.length ≤ k ∧ Srt ps ∧ ∀ p ∈ ps, p.1.length ≤ 9223372036854775807 ∧ p.2.length ≤ 9223372036854775807) := ⟨by rw [← HI.out.1]; exact srtT_len _ _ _, by rw [← HI.out.1]; exact srtT_srt _ _ _, by
        rw [← HI.out.1]
        clear HI HN hrow r0 r1 hK hV
        have hkn : k ≤ n := hk
        clear hk hlt
        induction k with
        | zero => intro p hp; cases hp
        | succ k ih => exact putT_mem (ih (by omega)) (HR.out.len k (by omega))⟩
      have HA : Bx (Below w.heap.size w (wr.alloc (.cells #[strV K, strV V] 70)) ∧ (wr.alloc (.cells #[strV K, strV V] 70)).ownsRow w.heap.size 70 2 u3 ps.length (tagC ps) ∧ CA (wr.alloc (.cells #[strV K, strV V] 70)) wr.heap.size [strV K, strV V] ∧ wr.heap.size < (wr.alloc (.cells #[strV K, strV V] 70)).heap.size ∧ u3.ownBlock ≠ some wr.heap.size) :=
        ⟨HI.out.2.1.trans ((below1 _ _).mono HI.out.2.1.size), HI.out.2.2.alloc _, CA.alloc wr [strV K, strV V] _, by simp [heap_push], fun e => by have := (HI.out.2.2.lt _ e).2; omega⟩
      obtain ⟨A', cap', rfl, hrow'⟩ := row_of_owns HA.out.2.1 HL.out.2.2
      have kb := bsearch_any A' ps.length cap' (fun i => (ps.getD i ([], [])).1) (fun i => (ps.getD i ([], [])).2) K V (posT ps K) _ hrow' (by have := HL.out.1; omega) (pos_le _ _) (pos_lo _ _) (pos_hi HL.out.2.1)
      obtain ⟨P, hP⟩ : ∃ P, posT ps K = P := ⟨_, rfl⟩
      obtain ⟨F, hF⟩ : ∃ F, (decide (P < ps.length) && cmpL (ps.getD P ([], [])).1 K == 0) = F := ⟨_, rfl⟩
      have HF : Bx (posT ps K = P ∧ hasT ps K = F) := ⟨hP, by unfold hasT; rw [hP]; exact hF⟩
      rw [hP] at kb
      simp only [hF] at kb
      clear hrow hP hF hrow' hK hV
      have hPl : P ≤ ps.length := by rw [← HF.out.1]; exact pos_le _ _
      go_wp2_with fail
      refine kb.mono ?_
      rintro e w1 ⟨rfl, h1⟩
      have H1 : Bx _ := ⟨And.intro (HA.out.1.trans (h1.mono HA.out.1.size)) (And.intro (HA.out.2.1.kept (grown_below h1 none) (no_row _)) (HA.out.2.2.1.grown (grown_below h1 none) (by simp)))⟩
      have hlt1 : wr.heap.size < w1.heap.size := Nat.lt_of_lt_of_le HA.out.2.2.2.1 h1.size
      have b0 := H1.out.2.2 0 _ rfl
      have b1 := H1.out.2.2 1 _ rfl
      clear kb h1 r0 r1
      cases F
      · have HP := put_new (v := V) HF.out.2
        rw [HF.out.1] at HP
        have HPB : Bx _ := ⟨HP⟩
        have hlen := HL.out.1
        have HW : Bx _ := ⟨And.intro (H1.out.2.1.alloc (.cells #[strV K, strV V] 70)) (And.intro (H1.out.1.trans ((below1 w1 (.cells #[strV K, strV V] 70)).mono H1.out.1.size)) (show (Value.slice A' ps.length cap').ownBlock ≠ some w1.heap.size from fun e => by have := (H1.out.2.1.lt _ e).2; omega))⟩
        have ki := insert_any w.heap.size ps.length P w1.heap.size (.slice A' ps.length cap') (tagC ps) K V (w1.alloc (.cells #[strV K, strV V] 70)) HW.out.1 (heap_alloc_new w1 _) HW.out.2.1.size (by omega) hPl HW.out.2.2 (tagC_one ps)
        rw [HPB.out.2, ← HPB.out.1] at ki
        clear HP hlen
        go_wp2_with fail
        refine ki.mono ?_
        rintro e w2 ⟨v', rfl, hown, hg⟩
        have HK : Bx (srtT tk tv (k + 1) = putT ps K V ∧ Below w.heap.size w w2 ∧ w2.ownsRow w.heap.size 70 2 v' (putT ps K V).length (tagC (putT ps K V))) := ⟨HN.out, below_own HW.out.2.1 hg (fun g e => (HW.out.1.lt g e).1) HW.out.2.1.size, hown⟩
        clear ki hown hg b0 b1
        go_wp2_with fail
        exact ⟨⟨k + 1, by omega, by rw [Int.natCast_succ], _, HK⟩, by simp only [intOf]; omega⟩
      · have HP := put_here (v := V) HF.out.2
        rw [HF.out.1] at HP
        have hPn := HP.1
        have HPB : Bx _ := ⟨HP⟩
        clear HP
        obtain ⟨g, rfl⟩ : ∃ g, A' = some ⟨g, 0, none⟩ := by
          obtain ⟨_, ⟨hv, h0⟩ | ⟨M, c, cur, hv, _⟩⟩ := H1.out.2.1
          · omega
          · simp only [Value.slice.injEq] at hv
            exact ⟨M, hv.1⟩
        have s0 := H1.out.2.1.cellAt (P * 2) (by omega)
        have s1 := H1.out.2.1.cellAt (P * 2 + 1) (by omega)
        have t0 := H1.out.2.1.frozenAt (P * 2)
        have t1 := H1.out.2.1.frozenAt (P * 2 + 1)
        rw [(tagC_get ps P hPn).1] at s0
        rw [(tagC_get ps P hPn).2] at s1
        go_wp2_with fail
        obtain ⟨o1, g1⟩ := H1.out.2.1.stored (P * 2) (strV K)
        obtain ⟨o2, g2⟩ := o1.stored (P * 2 + 1) (strV V)
        rw [HPB.out.2.2] at o2
        have hb := below_own (below_own H1.out.1 g1 (fun x e => by injection e with e; subst e; exact (H1.out.2.1.lt _ rfl).1) H1.out.1.size) g2 (fun x e => by injection e with e; subst e; exact (H1.out.2.1.lt _ rfl).1) (by rw [size_set]; exact H1.out.1.size)
        exact ⟨⟨k + 1, by omega, by rw [Int.natCast_succ], putT ps K V, ⟨HN.out, hb, by rw [HPB.out.2.1]; exact o2⟩⟩, by simp only [intOf]; omega⟩
    · obtain rfl : k = n := by omega
      obtain rfl : ps = Z := by rw [← HI.out.1, HZ.out]
      go_wp2_with fail
      go_ret
      exact ⟨_, rfl, HI.out.2.2, HI.out.2.1⟩
end
section
open Go.RowKit
theorem tagC_set (ts : List (List UInt8 × List UInt8)) (i : Nat) (a b : List UInt8) : ((tagC ts).set (i * 2) (strV a)).set (i * 2 + 1) (strV b) = tagC (ts.set i (a, b)) := by
  induction ts generalizing i with
  | nil => simp [tagC]
  | cons p ts ih =>
    have e : ∀ (p : List UInt8 × List UInt8) ts, tagC (p :: ts) = strV p.1 :: strV p.2 :: tagC ts := fun p ts => by simp [tagC]
    cases i with
    | zero => rw [List.set_cons_zero, e, e]; rfl
    | succ i =>
      rw [List.set_cons_succ, e, e, ← ih i, show (i + 1) * 2 = i * 2 + 1 + 1 by omega]
      rfl
/-- a hole among tags -/
def shL (ps : List (List UInt8 × List UInt8)) (k : Nat) (x : List UInt8 × List UInt8) : List (List UInt8 × List UInt8) := ps.take k ++ x :: ps.drop k
theorem shL_len (ps : List (List UInt8 × List UInt8)) (k : Nat) (x : List UInt8 × List UInt8) : (shL ps k x).length = ps.length + 1 := by
  unfold shL
  have := congrArg List.length (List.take_append_drop k ps)
  rw [List.length_append] at this
  rw [List.length_append, List.length_cons]; omega
theorem shL_set {ps : List (List UInt8 × List UInt8)} {k : Nat} (x y : List UInt8 × List UInt8) (hk : k ≤ ps.length) : (shL ps k x).set k y = shL ps k y := by
  unfold shL
  have : (ps.take k).length = k := by rw [List.length_take]; omega
  rw [List.set_append_right _ _ (by omega), this, Nat.sub_self]
  rfl
theorem shL_get {ps : List (List UInt8 × List UInt8)} {k j : Nat} (x : List UInt8 × List UInt8) (hk : k ≤ ps.length) (hj : j < k) : (shL ps k x).getD j ([], []) = ps.getD j ([], []) := by
  unfold shL
  rw [List.getD_eq_getElem?_getD, List.getD_eq_getElem?_getD, List.getElem?_append_left (by rw [List.length_take]; omega), List.getElem?_take, if_pos hj]
theorem shL_down {ps : List (List UInt8 × List UInt8)} {k : Nat} (hk : k + 1 ≤ ps.length) : shL ps (k + 1) (ps.getD k ([], [])) = shL ps k (ps.getD k ([], [])) := by
  have e : ps.getD k ([], []) = ps[k] := by rw [List.getD_eq_getElem?_getD, List.getElem?_eq_getElem (by omega)]; rfl
  unfold shL
  rw [e, List.take_succ_eq_append_getElem (show k < ps.length by omega), List.append_assoc, ← List.drop_eq_getElem_cons (show k < ps.length by omega)]
  rfl
theorem shL_end (ps : List (List UInt8 × List UInt8)) (x : List UInt8 × List UInt8) : shL ps ps.length x = ps ++ [x] := by
  unfold shL; simp
theorem shL_put {ps : List (List UInt8 × List UInt8)} {k v : List UInt8} (h : hasT ps k = false) : shL ps (posT ps k) (k, v) = putT ps k v := by
  have hp := headT_tailT ps k
  have e : putT ps k v = headT ps k ++ (k, v) :: tailT ps k := by
    unfold putT
    rcases (has_tail ps k).2 h with ht | ⟨d, r, ht, hd⟩
    · rw [ht]
    · rw [ht]; simp [hd]
  rw [e]
  unfold shL
  have h1 : ps.take (posT ps k) = headT ps k := by conv => lhs; arg 2; rw [← hp]
                                                   exact List.take_left' rfl
  have h2 : ps.drop (posT ps k) = tailT ps k := by conv => lhs; arg 2; rw [← hp]
                                                   exact List.drop_left' rfl
  rw [h1, h2]
theorem put_val {ps : List (List UInt8 × List UInt8)} {k v : List UInt8} (h : hasT ps k = true) : (tagC ps).set (posT ps k * 2 + 1) (strV v) = tagC (putT ps k v) := by
  obtain ⟨h1, _, h2⟩ := put_here (v := v) h
  rw [← h2]
  congr 1
  have h3 := (tagC_get ps (posT ps k) h1).1
  have h4 : (ps.getD (posT ps k) ([], [])).1 = k := by
    unfold hasT at h
    simp only [Bool.and_eq_true, beq_iff_eq] at h
    exact cmpL_zero h.2
  rw [h4] at h3
  apply List.ext_getElem?
  intro i
  rw [List.getElem?_set]
  split
  · rename_i e; subst e
    have : posT ps k * 2 < (tagC ps).length := by rw [tagC_len]; omega
    rw [h3, if_pos this]
  · rfl
theorem less_pos {ps : List (List UInt8 × List UInt8)} {k : List UInt8} (hs : Srt ps) {j : Nat} (hj : j ≤ posT ps k) (hl : j < ps.length) : Op.bytesLess (ps.getD j ([], [])).1 k = decide (j < posT ps k) := by
  rcases Nat.lt_or_ge j (posT ps k) with h | h
  · rw [decide_eq_true h]; exact (cmpL_lt _ _).1 (pos_lo ps k j h)
  · have := pos_hi hs j h hl
    rw [decide_eq_false (by omega)]
    cases hb : Op.bytesLess (ps.getD j ([], [])).1 k
    · rfl
    · have := (cmpL_lt _ _).2 hb; omega
theorem has_same {ps : List (List UInt8 × List UInt8)} {k : List UInt8} (hl : posT ps k < ps.length) : ((ps.getD (posT ps k) ([], [])).1 == k) = hasT ps k := by
  unfold hasT
  rw [decide_eq_true hl, Bool.true_and, Bool.eq_iff_iff, beq_iff_eq, beq_iff_eq]
  exact ⟨fun h => by rw [h]; exact cmpL_same _, cmpL_zero⟩
theorem has_not {ps : List (List UInt8 × List UInt8)} {k : List UInt8} (hl : ¬ posT ps k < ps.length) : hasT ps k = false := by
  unfold hasT
  rw [decide_eq_false hl, Bool.false_and]
theorem own_some {w : World} {base n : Nat} {e : TypeId} {size : Nat} {v : Value} {xs : List Value} (h : w.ownsRow base e size v n xs) (hn : 0 < n) : ∃ g cap, v = .slice (some ⟨g, 0, none⟩) n cap := by
  obtain ⟨_, ⟨hv, h0⟩ | ⟨M, c, cur, hv, _⟩⟩ := h
  · omega
  · exact ⟨M, c, hv⟩
end
end Go.Proofs.YtbaopcpmmdmomaaGreatDoor
