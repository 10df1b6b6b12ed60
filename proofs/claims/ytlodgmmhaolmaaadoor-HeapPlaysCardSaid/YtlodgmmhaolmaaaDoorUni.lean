/- Put, Take, Turn, Pop of both sides, said alike. -/
import Derived.Test.YtlodgmmhaolmaaaDoorAlk
import Derived.Test.YtlodgmmhaolmaaaDoorSame
set_option linter.unusedSimpArgs false
set_option linter.unusedVariables false
namespace Go.Proofs.YtlodgmmhaolmaaaDoor
open Go.RowKit
def errX (c : Int) : Value := if c = 0 then .nilIface else hErr c
theorem same_c (c : Int) (w : World) (hG : Glob w) (hc : 0 ≤ c) : Calls Tryd.prog 22 #[errX c, badV c] w fun e w' => e = .returned (.bool true) ∧ Below w.heap.size w w' := by
  unfold errX
  by_cases h : c = 0
  · subst h; rw [if_pos rfl]; exact same_nil w
  · rw [if_neg h]; exact same_E c w hG (by omega)
def knownC (L : List Ent) (s : List UInt8) : Int := if (findE L s).isSome then 5 else 0
def noneC (L : List Ent) (s : List UInt8) : Int := if (findE L s).isSome then 0 else 4
def emptyC (L : List Ent) : Int := if 0 < L.length then 0 else 4
def putL (mo : Bool) (L : List Ent) (mv : Nat) (e : Ent) : List Ent × Nat := match findE L e.2 with
  | some _ => (L, mv)
  | none => putH mo L e
def takeL (mo : Bool) (L : List Ent) (mv : Nat) (s : List UInt8) : List Ent × Nat := match findE L s with
  | some i => takeH mo L i
  | none => (L, mv)
def turnL (mo : Bool) (L : List Ent) (mv : Nat) (s : List UInt8) (r : Int) : List Ent × Nat := match findE L s with
  | some i => turnH mo L i r
  | none => (L, mv)
def popL (mo : Bool) (L : List Ent) (mv : Nat) : List Ent × Nat := if 0 < L.length then takeH mo L 0 else (L, mv)
theorem putL_len (mo : Bool) (L : List Ent) (mv : Nat) (e : Ent) : (putL mo L mv e).1.length ≤ L.length + 1 := by
  unfold putL; split
  · exact Nat.le_succ _
  · rw [putH_len]; exact Nat.le_refl _
theorem takeL_len (mo : Bool) (L : List Ent) (mv : Nat) (s : List UInt8) : (takeL mo L mv s).1.length ≤ L.length := by
  unfold takeL; split
  · rw [takeH_len]; omega
  · exact Nat.le_refl _
theorem turnL_len (mo : Bool) (L : List Ent) (mv : Nat) (s : List UInt8) (r : Int) : (turnL mo L mv s r).1.length ≤ L.length := by
  unfold turnL; split
  · unfold turnH; rw [mendH_len, List.length_set]; exact Nat.le_refl _
  · exact Nat.le_refl _
theorem popL_len (mo : Bool) (L : List Ent) (mv : Nat) : (popL mo L mv).1.length ≤ L.length := by
  unfold popL; split
  · rw [takeH_len]; omega
  · exact Nat.le_refl _
theorem HeapTo.same {w w' : World} {hb mb : Nat} {v : Value} {L : List Ent} {mo : Bool} {mv : Nat} (h : HeapAt w hb mb v L mo mv) (hb' : Below w.heap.size w w') : HeapTo w w' hb mb v v L mo mv := ⟨h.below hb', Turned.ofBelow hb', Or.inl rfl⟩
theorem RefTo.same {w w' : World} {mb : Nat} {v : Value} {L : List Ent} {mo : Bool} {mv : Nat} (h : RefAt w mb v L mo mv) (hb' : Below w.heap.size w w') : RefTo w w' mb v v L mo mv := ⟨h.below hb', Turned.ofBelow hb', Or.inl rfl⟩
theorem put_c (hb mb : Nat) (v : Value) (L : List Ent) (mo : Bool) (mv : Nat) (r : Int) (s : List UInt8) (w : World) (h : HeapAt w hb mb v L mo mv) (hs : s.length ≤ 9223372036854775807) (hL : (L.length + 1) * 24 ≤ 225179981352000) :
    Calls Tryd.prog 9 #[.pointer (some ⟨hb, 0, none⟩), .agg #[.int .i64 r, strV s]] w fun e w' => e = .returned (errX (knownC L s)) ∧ ∃ v', HeapTo w w' hb mb v v' (putL mo L mv (r, s)).1 mo (putL mo L mv (r, s)).2 := by
  unfold knownC putL
  cases hf : findE L s with
  | some i => exact (put_known hb mb v L mo mv r s w h hs i hf).mono fun e w' ⟨he, hb'⟩ => ⟨he, v, HeapTo.same h hb'⟩
  | none => exact (put_new hb mb v L mo mv r s w h hs hf hL).mono fun e w' ⟨he, v', ht⟩ => ⟨he, v', ht⟩
theorem rput_c (mb : Nat) (v : Value) (L : List Ent) (mo : Bool) (mv : Nat) (r : Int) (s : List UInt8) (w : World) (h : RefAt w mb v L mo mv) (hL : (L.length + 1) * 24 ≤ 225179981352000) :
    Calls Tryd.prog 48 #[.pointer (some ⟨mb, 0, none⟩), .agg #[.int .i64 r, strV s]] w fun e w' => e = .returned (badV (knownC L s)) ∧ ∃ v', RefTo w w' mb v v' (putL mo L mv (r, s)).1 mo (putL mo L mv (r, s)).2 := by
  unfold knownC putL
  cases hf : findE L s with
  | some i => exact (rput_known mb v L mo mv r s w h i hf (by omega)).mono fun e w' ⟨he, hb'⟩ => ⟨he, v, RefTo.same h hb'⟩
  | none => exact (rput_new mb v L mo mv r s w h hf hL).mono fun e w' ⟨he, v', ht⟩ => ⟨he, v', ht⟩
theorem take_c (hb mb : Nat) (v : Value) (L : List Ent) (mo : Bool) (mv : Nat) (s : List UInt8) (w : World) (h : HeapAt w hb mb v L mo mv) (hs : s.length ≤ 9223372036854775807) (hL : (L.length + 1) * 24 ≤ 225179981352000) :
    Calls Tryd.prog 14 #[.pointer (some ⟨hb, 0, none⟩), strV s] w fun e w' => e = .returned (.tuple #[.agg #[.int .i64 (getE L s).1, strV (getE L s).2], errX (noneC L s)]) ∧ ∃ v', HeapTo w w' hb mb v v' (takeL mo L mv s).1 mo (takeL mo L mv s).2 := by
  unfold noneC takeL getE
  cases hf : findE L s with
  | some i =>
    have hi := (findE_some hf).1
    exact (take_some hb mb v L mo mv (L.length - 1) s w h hs i hf (by omega) (by omega)).mono fun e w' ⟨he, v', ht⟩ => ⟨he, v', ht⟩
  | none => exact (take_none hb mb v L mo mv s w h hs hf).mono fun e w' ⟨he, hb'⟩ => ⟨he, v, HeapTo.same h hb'⟩
theorem rtake_c (mb : Nat) (v : Value) (L : List Ent) (mo : Bool) (mv : Nat) (s : List UInt8) (w : World) (h : RefAt w mb v L mo mv) (hL : (L.length + 1) * 24 ≤ 225179981352000) :
    Calls Tryd.prog 49 #[.pointer (some ⟨mb, 0, none⟩), strV s] w fun e w' => e = .returned (entBad (getE L s).1 (getE L s).2 (noneC L s)) ∧ ∃ v', RefTo w w' mb v v' (takeL mo L mv s).1 mo (takeL mo L mv s).2 := by
  unfold noneC takeL getE
  cases hf : findE L s with
  | some i =>
    have hi := (findE_some hf).1
    exact (rtake_some mb v L mo mv (L.length - 1) s w h i hf (by omega) (by omega)).mono fun e w' ⟨he, v', ht⟩ => ⟨he, v', ht⟩
  | none => exact (rtake_none mb v L mo mv s w h hf (by omega)).mono fun e w' ⟨he, hb'⟩ => ⟨he, v, RefTo.same h hb'⟩
theorem turn_c (hb mb : Nat) (v : Value) (L : List Ent) (mo : Bool) (mv : Nat) (s : List UInt8) (r : Int) (w : World) (h : HeapAt w hb mb v L mo mv) (hs : s.length ≤ 9223372036854775807) (hL : (L.length + 1) * 24 ≤ 225179981352000) :
    Calls Tryd.prog 27 #[.pointer (some ⟨hb, 0, none⟩), strV s, .int .i64 r] w fun e w' => e = .returned (errX (noneC L s)) ∧ ∃ v', HeapTo w w' hb mb v v' (turnL mo L mv s r).1 mo (turnL mo L mv s r).2 := by
  unfold noneC turnL
  cases hf : findE L s with
  | some i => exact (turn_some hb mb v L mo mv s r w h hs i hf (by omega)).mono fun e w' ⟨he, ht⟩ => ⟨he, v, ht⟩
  | none => exact (turn_none hb mb v L mo mv s r w h hs hf).mono fun e w' ⟨he, hb'⟩ => ⟨he, v, HeapTo.same h (by rw [← hb']; exact Below.refl _ _)⟩
theorem rturn_c (mb : Nat) (v : Value) (L : List Ent) (mo : Bool) (mv : Nat) (s : List UInt8) (r : Int) (w : World) (h : RefAt w mb v L mo mv) (hL : (L.length + 1) * 24 ≤ 225179981352000) :
    Calls Tryd.prog 50 #[.pointer (some ⟨mb, 0, none⟩), strV s, .int .i64 r] w fun e w' => e = .returned (badV (noneC L s)) ∧ ∃ v', RefTo w w' mb v v' (turnL mo L mv s r).1 mo (turnL mo L mv s r).2 := by
  unfold noneC turnL
  cases hf : findE L s with
  | some i => exact (rturn_some mb v L mo mv s r w h i hf (by omega)).mono fun e w' ⟨he, ht⟩ => ⟨he, v, ht⟩
  | none => exact (rturn_none mb v L mo mv s r w h hf (by omega)).mono fun e w' ⟨he, hb'⟩ => ⟨he, v, RefTo.same h hb'⟩
theorem pop_c (hb mb : Nat) (v : Value) (L : List Ent) (mo : Bool) (mv : Nat) (w : World) (h : HeapAt w hb mb v L mo mv) (hL : (L.length + 1) * 24 ≤ 225179981352000) :
    Calls Tryd.prog 51 #[.pointer (some ⟨hb, 0, none⟩)] w fun e w' => e = .returned (.tuple #[.agg #[.int .i64 (atE L 0).1, strV (atE L 0).2], errX (emptyC L)]) ∧ ∃ v', HeapTo w w' hb mb v v' (popL mo L mv).1 mo (popL mo L mv).2 := by
  unfold emptyC popL
  cases L with
  | nil => exact (pop_none hb mb v mo mv w h).mono fun e w' ⟨he, hb'⟩ => ⟨he, v, HeapTo.same h hb'⟩
  | cons x L => exact (pop_some hb mb v (x :: L) mo mv L.length w h rfl (by simp at hL; omega)).mono fun e w' ⟨he, v', ht⟩ => ⟨by rw [he, if_pos (by simp)]; rfl, v', by rw [if_pos (by simp)]; exact ht⟩
theorem rpop_c (mb : Nat) (v : Value) (L : List Ent) (mo : Bool) (mv : Nat) (w : World) (h : RefAt w mb v L mo mv) (hL : (L.length + 1) * 24 ≤ 225179981352000) :
    Calls Tryd.prog 52 #[.pointer (some ⟨mb, 0, none⟩)] w fun e w' => e = .returned (entBad (atE L 0).1 (atE L 0).2 (emptyC L)) ∧ ∃ v', RefTo w w' mb v v' (popL mo L mv).1 mo (popL mo L mv).2 := by
  unfold emptyC popL
  cases L with
  | nil => exact (rpop_none mb v mo mv w h).mono fun e w' ⟨he, hb'⟩ => ⟨he, v, RefTo.same h hb'⟩
  | cons x L => exact (rpop_some mb v (x :: L) mo mv L.length w h rfl (by simp at hL; omega)).mono fun e w' ⟨he, v', ht⟩ => ⟨by rw [he, if_pos (by simp)], v', by rw [if_pos (by simp)]; exact ht⟩
/-- a heap and the document's -/
structure PrAt (w : World) (hb mb : Nat) (v : Value) (rb : Nat) (rv : Value) (L : List Ent) (mo : Bool) (mv : Nat) : Prop where
  h : HeapAt w hb mb v L mo mv
  m : RefAt w rb rv L mo mv
  d : ∀ x ∈ foot hb mb v, x ∉ rfoot rb rv
def pfoot (hb mb : Nat) (v : Value) (rb : Nat) (rv : Value) : List Nat := foot hb mb v ++ rfoot rb rv
theorem PrAt.kept {w w' : World} {hb mb : Nat} {v : Value} {rb : Nat} {rv : Value} {L : List Ent} {mo : Bool} {mv : Nat} {S : List Nat} (h : PrAt w hb mb v rb rv L mo mv) (ht : Turned S w w') (hS : ∀ x ∈ S, x ∉ pfoot hb mb v rb rv) : PrAt w' hb mb v rb rv L mo mv :=
  ⟨h.h.kept ht (fun x hx hm => hS x hx (List.mem_append_left _ hm)), h.m.kept ht (fun x hx hm => hS x hx (List.mem_append_right _ hm)), h.d⟩
theorem PrAt.below {w w' : World} {hb mb : Nat} {v : Value} {rb : Nat} {rv : Value} {L : List Ent} {mo : Bool} {mv : Nat} (h : PrAt w hb mb v rb rv L mo mv) (hb' : Below w.heap.size w w') : PrAt w' hb mb v rb rv L mo mv := h.kept (S := []) (Turned.ofBelow hb') (by simp)
theorem PrAt.lt {w : World} {hb mb : Nat} {v : Value} {rb : Nat} {rv : Value} {L : List Ent} {mo : Bool} {mv : Nat} (h : PrAt w hb mb v rb rv L mo mv) : ∀ x ∈ pfoot hb mb v rb rv, x < w.heap.size := fun x hx => by
  rcases List.mem_append.1 hx with hx | hx
  · exact h.h.footLt x hx
  · exact h.m.footLt x hx
/-- what a change of both leaves -/
structure PrTo (w w' : World) (hb mb : Nat) (v v' : Value) (rb : Nat) (rv rv' : Value) (L' : List Ent) (mo : Bool) (mv' : Nat) : Prop where
  p : PrAt w' hb mb v' rb rv' L' mo mv'
  t : Turned (pfoot hb mb v rb rv) w w'
  f : ∀ x ∈ pfoot hb mb v' rb rv', x ∈ pfoot hb mb v rb rv ∨ w.heap.size ≤ x
theorem PrTo.step {w w' w2 : World} {hb mb : Nat} {v v' : Value} {rb : Nat} {rv rv' : Value} {L' : List Ent} {mo : Bool} {mv' : Nat} (h : PrTo w w' hb mb v v' rb rv rv' L' mo mv') (hb' : Below w'.heap.size w' w2) : PrTo w w2 hb mb v v' rb rv rv' L' mo mv' :=
  ⟨h.p.below hb', h.t.trans (Turned.ofBelow hb'), h.f⟩
theorem PrTo.refl {w w' : World} {hb mb : Nat} {v : Value} {rb : Nat} {rv : Value} {L : List Ent} {mo : Bool} {mv : Nat} (h : PrAt w hb mb v rb rv L mo mv) (hb' : Below w.heap.size w w') : PrTo w w' hb mb v v rb rv rv L mo mv :=
  ⟨h.below hb', Turned.ofBelow hb', fun x hx => Or.inl hx⟩
/-- the first half: the program's heap has changed -/
theorem PrAt.half {w w1 : World} {hb mb : Nat} {v v' : Value} {rb : Nat} {rv : Value} {L L' : List Ent} {mo : Bool} {mv mv' : Nat} (h : PrAt w hb mb v rb rv L mo mv) (ht : HeapTo w w1 hb mb v v' L' mo mv') : RefAt w1 rb rv L mo mv :=
  h.m.kept ht.t (fun x hx hm => h.d x hx hm)
theorem PrAt.go {w w1 w2 : World} {hb mb : Nat} {v v' : Value} {rb : Nat} {rv rv' : Value} {L L' : List Ent} {mo : Bool} {mv mv' : Nat} (h : PrAt w hb mb v rb rv L mo mv) (ht : HeapTo w w1 hb mb v v' L' mo mv') (hr : RefTo w1 w2 rb rv rv' L' mo mv') : PrTo w w2 hb mb v v' rb rv rv' L' mo mv' := by
  have hlt := h.m.footLt
  have hs1 := ht.t.size
  have hv : ∀ x ∈ foot hb mb v', x ∈ foot hb mb v ∨ w.heap.size ≤ x := foot_step ht.r
  have hv1 := ht.h.footLt
  have hrv : ∀ x ∈ rfoot rb rv', x ∈ rfoot rb rv ∨ w1.heap.size ≤ x := rfoot_step hr.r
  refine ⟨⟨ht.h.kept hr.t (fun x hx hm => ?_), hr.h, fun x hx hm => ?_⟩, (ht.t.more (fun x hx => List.mem_append_left _ hx)).trans (hr.t.more (fun x hx => List.mem_append_right _ hx)), fun x hx => ?_⟩
  · rcases hv x hm with h1 | h1
    · exact h.d x h1 hx
    · have := hlt x hx
      omega
  · rcases hrv x hm with h1 | h1
    · rcases hv x hx with h2 | h2
      · exact h.d x h2 h1
      · have := hlt x h1
        omega
    · have := hv1 x hx
      omega
  · rcases List.mem_append.1 hx with hx | hx
    · rcases hv x hx with h1 | h1
      · exact Or.inl (List.mem_append_left _ h1)
      · exact Or.inr h1
    · rcases hrv x hx with h1 | h1
      · exact Or.inl (List.mem_append_right _ h1)
      · exact Or.inr (Nat.le_trans hs1 h1)
end Go.Proofs.YtlodgmmhaolmaaaDoor
