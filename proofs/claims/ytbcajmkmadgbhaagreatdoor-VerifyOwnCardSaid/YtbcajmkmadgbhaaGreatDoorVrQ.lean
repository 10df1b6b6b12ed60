/- Verify, the document's answer: heights. -/
import Derived.Test.YtbcajmkmadgbhaaGreatDoorVrP
import Derived.Deep.OwnRows
set_option linter.unusedSimpArgs false
set_option linter.unusedVariables false
namespace Go.Proofs.YtbcajmkmadgbhaaGreatDoor
open Go.RowKit
/-- a block of just these cells -/
def LB (w : World) (b : Nat) (l : List Value) : Prop := ∃ T, w.heap[b]? = some (.cells l.toArray T (0, 0))
theorem LB.lt {w : World} {b : Nat} {l : List Value} (h : LB w b l) : b < w.heap.size := by obtain ⟨T, h⟩ := h; exact block_lt h
theorem LB.at {w : World} {b : Nat} {l : List Value} (h : LB w b l) (i : Nat) (v : Value) (hv : l[i]? = some v) : w.cell? ⟨b, i, none⟩ = some v := by
  obtain ⟨T, h⟩ := h
  exact cells_at h i v (by simpa using hv)
theorem LB.free {w : World} {b : Nat} {l : List Value} (h : LB w b l) (i : Nat) : w.frozen? ⟨b, i, none⟩ = false := by obtain ⟨T, h⟩ := h; exact cells_free h i
theorem LB.below {w w' : World} {b : Nat} {l : List Value} (h : LB w b l) (hb : Below w.heap.size w w') : LB w' b l := by
  have hl := h.lt
  obtain ⟨T, h⟩ := h
  exact ⟨T, by rw [hb.block b hl]; exact h⟩
theorem LB.set {w : World} {b : Nat} {l : List Value} (h : LB w b l) (i : Nat) (u : Value) : LB (w.setCell ⟨b, i, none⟩ u) b (l.set i u) := by
  obtain ⟨T, h⟩ := h
  exact ⟨T, by rw [cells_set h i u]; simp⟩
theorem LB.other {w : World} {b b' i : Nat} {l : List Value} (h : LB w b l) (hne : b ≠ b') {u : Value} : LB (w.setCell ⟨b', i, none⟩ u) b l := by
  obtain ⟨T, h⟩ := h
  exact ⟨T, by rw [Below.heap_setCell _ _ _ _ hne]; exact h⟩
def boolC (l : List Bool) : List Value := l.map Value.bool
theorem intC_at {l : List Int} {i : Nat} (h : i < l.length) : (intC l)[i]? = some (.int .i64 (l.getD i 0)) := by
  unfold intC
  rw [List.getElem?_map, List.getD_eq_getElem?_getD, List.getElem?_eq_getElem h]; rfl
theorem boolC_at {l : List Bool} {i : Nat} (h : i < l.length) : (boolC l)[i]? = some (.bool (l.getD i false)) := by
  unfold boolC
  rw [List.getElem?_map, List.getD_eq_getElem?_getD, List.getElem?_eq_getElem h]; rfl
theorem intC_set (l : List Int) (i : Nat) (v : Int) : (intC l).set i (.int .i64 v) = intC (l.set i v) := by unfold intC; rw [List.map_set]
theorem boolC_set (l : List Bool) (i : Nat) (v : Bool) : (boolC l).set i (.bool v) = boolC (l.set i v) := by unfold boolC; rw [List.map_set]
/-- several settings -/
def setsR (now : Int) (s : List Int × List Bool) (L : List Nat) : List Int × List Bool := L.foldl (fun s tx => setR s tx now) s
theorem setsR_take {now : Int} {s : List Int × List Bool} {L : List Nat} {k tx : Nat} (h : L[k]? = some tx) : setsR now s (L.take (k + 1)) = setR (setsR now s (L.take k)) tx now := by
  have hk := (List.getElem?_eq_some_iff.1 h).1
  have e : L[k] = tx := (List.getElem?_eq_some_iff.1 h).2
  rw [List.take_succ_eq_append_getElem hk, e]
  unfold setsR
  rw [List.foldl_append]; rfl
theorem stepR_fold (c : Nat) (n : Nat) : ∀ (L : List Nat) (s : List Int × List Bool) (v : Int), s.1.getD n 0 = v → (∀ tx ∈ L, tx ≠ n) → L.foldl (fun s tx => setR s tx (behindC c (s.1.getD n 0))) s = setsR (behindC c v) s L
  | [], _, _, _, _ => rfl
  | x :: r, s, v, hv, hn => by
    show r.foldl _ (setR s x (behindC c (s.1.getD n 0))) = r.foldl _ (setR s x (behindC c v))
    rw [hv]
    refine stepR_fold c n r _ v ?_ (fun tx h => hn tx (List.mem_cons_of_mem _ h))
    unfold setR
    rw [getD_set_ne (hn x (List.mem_cons_self ..))]
    exact hv
theorem stepR_now {i : InsD} {n : Nat} {o : List Int × List Bool} {L : List Nat} (hL : nextR i n = L) (hn : ∀ tx ∈ L, tx ≠ n) : stepR i n o = setsR (behindC i.c (o.1.getD n 0)) o L := by
  unfold stepR
  rw [hL]
  exact stepR_fold i.c n L o _ rfl hn
theorem heiR_bad {l : List InsD} {R : Nat ⊕ List Int} {j : Nat} {i : InsD} {s : List Int × List Bool} (hI : heiR (l.drop j) j s = R) (hF : l.drop j = i :: l.drop (j + 1)) (hb : badR i j s = true) : R = .inl j := by
  rw [hF] at hI
  unfold heiR at hI
  rw [if_pos hb] at hI
  exact hI.symm
theorem heiR_go {l : List InsD} {R : Nat ⊕ List Int} {j : Nat} {i : InsD} {s : List Int × List Bool} (hI : heiR (l.drop j) j s = R) (hF : l.drop j = i :: l.drop (j + 1)) (hb : badR i j s = false) : heiR (l.drop (j + 1)) (j + 1) (stepR i j s) = R := by
  rw [hF] at hI
  unfold heiR at hI
  rwa [if_neg (by rw [hb]; simp)] at hI
/-- heights are small -/
def BdR (s : List Int × List Bool) : Prop := ∀ v ∈ s.1, -1 ≤ v ∧ v ≤ 200
theorem BdR.set {s : List Int × List Bool} {tx : Nat} {now : Int} (h : BdR s) (hn : -1 ≤ now ∧ now ≤ 200) : BdR (setR s tx now) := by
  intro v hv
  unfold setR at hv
  rcases List.mem_or_eq_of_mem_set hv with h1 | h1
  · exact h v h1
  · rw [h1]; exact hn
theorem BdR.get {s : List Int × List Bool} (h : BdR s) (i : Nat) : -1 ≤ s.1.getD i 0 ∧ s.1.getD i 0 ≤ 200 := by
  rw [List.getD_eq_getElem?_getD]
  cases hg : s.1[i]? with
  | none => simp
  | some v => exact h v (List.mem_of_getElem? hg)
/-- what heights of the document knows -/
structure HrB (w wr : World) (S : Nat) (A : Option Addr) (l : List InsD) (o : List Int × List Bool) : Prop where
  below : Below S w wr
  eq : w.heap.size = S
  bad : ∃ T, wr.heap[S]? = some (.cells badC T (0, 0))
  ob : LB wr (S + 1) (intC o.1)
  pb : LB wr (S + 2) (boolC o.2)
  l1 : o.1.length = l.length
  l2 : o.2.length = l.length
  r0 : InsL w A l
theorem HrB.row {w wr : World} {S : Nat} {A : Option Addr} {l : List InsD} {o : List Int × List Bool} (h : HrB w wr S A l o) : InsL wr A l := h.r0.below (by rw [h.eq]; exact h.below)
theorem HrB.sz {w wr : World} {S : Nat} {A : Option Addr} {l : List InsD} {o : List Int × List Bool} (h : HrB w wr S A l o) : S + 3 ≤ wr.heap.size := h.pb.lt
theorem HrB.step {w wr w' : World} {S : Nat} {A : Option Addr} {l : List InsD} {o : List Int × List Bool} (h : HrB w wr S A l o) (hb : Below wr.heap.size wr w') : HrB w w' S A l o where
  below := h.below.trans (hb.mono (by have := h.sz; omega))
  eq := h.eq
  bad := by obtain ⟨T, h0⟩ := h.bad; exact ⟨T, by rw [hb.block S (block_lt h0)]; exact h0⟩
  ob := h.ob.below hb
  pb := h.pb.below hb
  l1 := h.l1
  l2 := h.l2
  r0 := h.r0
theorem HrB.o_at {w wr : World} {S : Nat} {A : Option Addr} {l : List InsD} {o : List Int × List Bool} (h : HrB w wr S A l o) {i : Nat} (hi : i < l.length) : wr.cell? ⟨S + 1, i, none⟩ = some (.int .i64 (o.1.getD i 0)) := h.ob.at i _ (intC_at (by rw [h.l1]; exact hi))
theorem HrB.p_at {w wr : World} {S : Nat} {A : Option Addr} {l : List InsD} {o : List Int × List Bool} (h : HrB w wr S A l o) {i : Nat} (hi : i < l.length) : wr.cell? ⟨S + 2, i, none⟩ = some (.bool (o.2.getD i false)) := h.pb.at i _ (boolC_at (by rw [h.l2]; exact hi))
theorem HrB.free {w wr : World} {S : Nat} {A : Option Addr} {l : List InsD} {o : List Int × List Bool} (h : HrB w wr S A l o) (i : Nat) : wr.frozen? ⟨S + 1, i, none⟩ = false ∧ wr.frozen? ⟨S + 2, i, none⟩ = false := ⟨h.ob.free i, h.pb.free i⟩
theorem HrB.set {w wr : World} {S : Nat} {A : Option Addr} {l : List InsD} {o : List Int × List Bool} (h : HrB w wr S A l o) {tx : Nat} {now : Int} {b : Bool} (hto : tx < l.length) (hb : (o.2.getD tx false || (decide (o.1.getD tx 0 ≥ 0) && o.1.getD tx 0 != now)) = b) :
    HrB w ((wr.setCell ⟨S + 2, tx, none⟩ (.bool b)).setCell ⟨S + 1, tx, none⟩ (.int .i64 now)) S A l (setR o tx now) where
  below := (h.below.setCell (by show S ≤ S + 2; omega) _).setCell (by show S ≤ S + 1; omega) _
  eq := h.eq
  bad := by
    obtain ⟨T, h0⟩ := h.bad
    exact ⟨T, by rw [Below.heap_setCell _ _ _ _ (by show S ≠ S + 1; omega), Below.heap_setCell _ _ _ _ (by show S ≠ S + 2; omega)]; exact h0⟩
  ob := by
    have := (h.ob.other (b' := S + 2) (i := tx) (u := .bool b) (by omega)).set tx (.int .i64 now)
    rw [intC_set] at this
    exact this
  pb := by
    have := (h.pb.set tx (.bool b)).other (b' := S + 1) (i := tx) (u := .int .i64 now) (by omega)
    rw [boolC_set] at this
    unfold setR
    rw [hb]
    exact this
  l1 := by rw [(setR_len _ _ _).1]; exact h.l1
  l2 := by rw [(setR_len _ _ _).2]; exact h.l2
  r0 := h.r0
theorem bset5o {S : Nat} {w w1 : World} (h : Below S w w1) (a b c d e : Value) : Below S w (((((w1.setCell ⟨S, 0, none⟩ a).setCell ⟨S, 1, none⟩ b).setCell ⟨S, 2, none⟩ c).setCell ⟨S, 3, none⟩ d).setCell ⟨S, 4, none⟩ e) :=
  ((((h.setCell (Nat.le_refl _) _).setCell (Nat.le_refl _) _).setCell (Nat.le_refl _) _).setCell (Nat.le_refl _) _).setCell (Nat.le_refl _) _
theorem lit_at : ∀ (L : List Nat) (k tx : Nat), L[k]? = some tx → (L.map fun x : Nat => Value.int .i64 (x : Int))[k]? = some (.int .i64 (tx : Int)) := fun L k tx h => by rw [List.getElem?_map, h]; rfl
/-- what heights of the document hands back -/
def HrOut (S : Nat) (w' : World) (r : Nat ⊕ List Int) (v : Value) (k : Nat) : Prop := match r with
  | .inl n => v = .tuple #[.slice none 0 0, badAt ((k : Int) + (n : Int)) 190]
  | .inr l => ∃ b, v = .tuple #[.slice (some ⟨b, 0, none⟩) l.length l.length, badV 0] ∧ LB w' b (intC l) ∧ S ≤ b
theorem made_int (n : Nat) : madeCells #[Value.int .i64 0] n = (intC (List.replicate n 0)).toArray := by
  apply Array.ext'
  rw [toList_madeCells_one]; simp [intC]
theorem made_bool (n : Nat) : madeCells #[Value.bool false] n = (boolC (List.replicate n false)).toArray := by
  apply Array.ext'
  rw [toList_madeCells_one]; simp [boolC]
/-- ahead of the main loop: the row of heights alone -/
structure HrA (w wr : World) (S : Nat) (o : List Int) : Prop where
  below : Below S w wr
  bad : ∃ T, wr.heap[S]? = some (.cells badC T (0, 0))
  ob : LB wr (S + 1) (intC o)
  sz : wr.heap.size = S + 2
theorem HrA.set {w wr : World} {S : Nat} {o : List Int} (h : HrA w wr S o) (i : Nat) (v : Int) : HrA w (wr.setCell ⟨S + 1, i, none⟩ (.int .i64 v)) S (o.set i v) where
  below := h.below.setCell (by show S ≤ S + 1; omega) _
  bad := by obtain ⟨T, h0⟩ := h.bad; exact ⟨T, by rw [Below.heap_setCell _ _ _ _ (by show S ≠ S + 1; omega)]; exact h0⟩
  ob := by have := h.ob.set i (.int .i64 v); rwa [intC_set] at this
  sz := by rw [← h.sz]; simp
end Go.Proofs.YtbcajmkmadgbhaaGreatDoor
