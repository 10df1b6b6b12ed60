/- HeapPlays: rows of heaps of both sides; which. Condition: errors.errorType holds the handle of the type error. -/
import Derived.Test.YtlodgmmhaolmaaaDoorCan
import Derived.Test.YtlodgmmhaolmaaaDoorSameI
import Derived.Test.YtlodgmmhaolmaaaDoorApg
import Derived.Test.YtlodgmmhaolmaaaDoorCln
import Derived.Test.YtlodgmmhaolmaaaDoorOpR
set_option linter.unusedSimpArgs false
set_option linter.unusedVariables false
namespace Go.Proofs.YtlodgmmhaolmaaaDoor
open Go.RowKit
/-- a heap and the document's, by their places -/
structure PrD where
  hb : Nat
  mb : Nat
  v : Value
  rb : Nat
  rv : Value
  L : List Ent
  mo : Bool
  mv : Nat
def hP : Option PrD → Value
  | none => .pointer none
  | some p => .pointer (some ⟨p.hb, 0, none⟩)
def mP : Option PrD → Value
  | none => .pointer none
  | some p => .pointer (some ⟨p.rb, 0, none⟩)
def footO : Option PrD → List Nat
  | none => []
  | some p => pfoot p.hb p.mb p.v p.rb p.rv
def okO (w : World) (X : Nat) : Option PrD → Prop
  | none => True
  | some p => PrAt w p.hb p.mb p.v p.rb p.rv p.L p.mo p.mv ∧ p.L.length ≤ X
theorem okO.kept {w w' : World} {X : Nat} {o : Option PrD} {S : List Nat} (h : okO w X o) (ht : Turned S w w') (hS : ∀ x ∈ S, x ∉ footO o) : okO w' X o := by
  cases o with
  | none => trivial
  | some p => exact ⟨h.1.kept ht hS, h.2⟩
theorem okO.lt {w : World} {X : Nat} {o : Option PrD} (h : okO w X o) : ∀ x ∈ footO o, x < w.heap.size := by
  cases o with
  | none => intro x hx; cases hx
  | some p => exact h.1.lt
theorem okO.more {w : World} {X Y : Nat} {o : Option PrD} (h : okO w X o) (hXY : X ≤ Y) : okO w Y o := by
  cases o with
  | none => trivial
  | some p => exact ⟨h.1, Nat.le_trans h.2 hXY⟩
def pAt (ps : List (Option PrD)) (j : Nat) : Option PrD := ps.getD j none
/-- two rows of pointers, and what they point at -/
structure PlIn (w wr : World) (hg hc : Nat) (hps : List Value) (rg rc : Nat) (mps : List Value) (ps : List (Option PrD)) (X : Nat) : Prop where
  b : Below w.heap.size w wr
  hrow : wr.ownsRow w.heap.size 28 1 (.slice (some ⟨hg, 0, none⟩) hps.length hc) hps.length hps
  mrow : wr.ownsRow w.heap.size 44 1 (.slice (some ⟨rg, 0, none⟩) mps.length rc) mps.length mps
  ok : ∀ j, j < ps.length → okO wr X (pAt ps j)
  lo : ∀ j, j < ps.length → ∀ x ∈ footO (pAt ps j), w.heap.size ≤ x
  dis : ∀ j k, j < ps.length → k < ps.length → j ≠ k → ∀ x ∈ footO (pAt ps j), x ∉ footO (pAt ps k)
  fr : ∀ j, j < ps.length → hg ∉ footO (pAt ps j) ∧ rg ∉ footO (pAt ps j)
  ne : hg ≠ rg
theorem PlIn.hlt {w wr : World} {hg hc : Nat} {hps : List Value} {rg rc : Nat} {mps : List Value} {ps : List (Option PrD)} {X : Nat} (h : PlIn w wr hg hc hps rg rc mps ps X) : (w.heap.size ≤ hg ∧ hg < wr.heap.size) ∧ (w.heap.size ≤ rg ∧ rg < wr.heap.size) :=
  ⟨h.hrow.lt _ rfl, h.mrow.lt _ rfl⟩
theorem row_kept2 {w w' : World} {base : Nat} {e : TypeId} {size : Nat} {g c n : Nat} {xs : List Value} {S : List Nat} (h : w.ownsRow base e size (.slice (some ⟨g, 0, none⟩) n c) n xs) (ht : Turned S w w') (hS : g ∉ S) : w'.ownsRow base e size (.slice (some ⟨g, 0, none⟩) n c) n xs := by
  obtain ⟨h1, ⟨hv, _⟩ | ⟨g', cap, cur, hv, hb, hg, r⟩⟩ := h
  · cases hv
  · simp only [Value.slice.injEq, Option.some.injEq, Addr.mk.injEq, and_true, true_and] at hv
    obtain ⟨rfl, rfl⟩ := hv
    exact ⟨h1, Or.inr ⟨g, c, cur, rfl, hb, by rw [ht.block g (block_lt hg) hS]; exact hg, r⟩⟩
theorem PlIn.step {w wr w' : World} {hg hc : Nat} {hps : List Value} {rg rc : Nat} {mps : List Value} {ps : List (Option PrD)} {X : Nat} (h : PlIn w wr hg hc hps rg rc mps ps X) (hb' : Below wr.heap.size wr w') : PlIn w w' hg hc hps rg rc mps ps X where
  b := h.b.trans (hb'.mono h.b.size)
  hrow := row_kept2 (S := []) h.hrow (Turned.ofBelow hb') (by simp)
  mrow := row_kept2 (S := []) h.mrow (Turned.ofBelow hb') (by simp)
  ok := fun j hj => (h.ok j hj).kept (S := []) (Turned.ofBelow hb') (by simp)
  lo := h.lo
  dis := h.dis
  fr := h.fr
  ne := h.ne
theorem PlIn.more {w wr : World} {hg hc : Nat} {hps : List Value} {rg rc : Nat} {mps : List Value} {ps : List (Option PrD)} {X Y : Nat} (h : PlIn w wr hg hc hps rg rc mps ps X) (hXY : X ≤ Y) : PlIn w wr hg hc hps rg rc mps ps Y :=
  ⟨h.b, h.hrow, h.mrow, fun j hj => (h.ok j hj).more hXY, h.lo, h.dis, h.fr, h.ne⟩
/-- the program's row has grown -/
theorem PlIn.app1 {w wr w2 : World} {hg hc : Nat} {hps : List Value} {rg rc : Nat} {mps : List Value} {ps : List (Option PrD)} {X g c n : Nat} {x : Value} (h : PlIn w wr hg hc hps rg rc mps ps X) (hn : hps.length = n)
    (ho : w2.ownsRow w.heap.size 28 1 (.slice (some ⟨g, 0, none⟩) (n + 1) c) (n + 1) (hps ++ [x])) (hd : (g = hg ∧ wr.grownBy w2 (some g)) ∨ (wr.heap.size ≤ g ∧ wr.grownBy w2 none)) :
    PlIn w w2 g c (hps ++ [x]) rg rc mps ps X ∧ Turned [hg] wr w2 := by
  subst hn
  have ht : Turned [hg] wr w2 := by
    rcases hd with ⟨rfl, h1⟩ | ⟨_, h1⟩
    · exact Turned.ofGrown h1 (fun x e => by injection e with e; subst e; simp)
    · exact (Turned.ofGrown (S := []) h1 (fun x e => by cases e)).more (by simp)
  have hl := h.hlt
  refine ⟨⟨h.b.trans (ht.below (fun x hx => by rw [List.mem_singleton] at hx; rw [hx]; exact hl.1.1) h.b.size), by rw [show (hps ++ [x]).length = hps.length + 1 by simp]; exact ho, row_kept2 h.mrow ht (by simpa using h.ne.symm), fun j hj => (h.ok j hj).kept ht (fun x hx => by rw [List.mem_singleton] at hx; rw [hx]; exact (h.fr j hj).1), h.lo, h.dis, fun j hj => ⟨?_, (h.fr j hj).2⟩, ?_⟩, ht⟩
  · rcases hd with ⟨rfl, _⟩ | ⟨h1, _⟩
    · exact (h.fr j hj).1
    · intro hm
      have := (h.ok j hj).lt g hm
      omega
  · rcases hd with ⟨rfl, _⟩ | ⟨h1, _⟩
    · exact h.ne
    · have := hl.2.2
      omega
/-- the document's row has grown -/
theorem PlIn.app2 {w wr w2 : World} {hg hc : Nat} {hps : List Value} {rg rc : Nat} {mps : List Value} {ps : List (Option PrD)} {X g c n : Nat} {x : Value} (h : PlIn w wr hg hc hps rg rc mps ps X) (hn : mps.length = n)
    (ho : w2.ownsRow w.heap.size 44 1 (.slice (some ⟨g, 0, none⟩) (n + 1) c) (n + 1) (mps ++ [x])) (hd : (g = rg ∧ wr.grownBy w2 (some g)) ∨ (wr.heap.size ≤ g ∧ wr.grownBy w2 none)) :
    PlIn w w2 hg hc hps g c (mps ++ [x]) ps X ∧ Turned [rg] wr w2 := by
  subst hn
  have ht : Turned [rg] wr w2 := by
    rcases hd with ⟨rfl, h1⟩ | ⟨_, h1⟩
    · exact Turned.ofGrown h1 (fun x e => by injection e with e; subst e; simp)
    · exact (Turned.ofGrown (S := []) h1 (fun x e => by cases e)).more (by simp)
  have hl := h.hlt
  refine ⟨⟨h.b.trans (ht.below (fun x hx => by rw [List.mem_singleton] at hx; rw [hx]; exact hl.2.1) h.b.size), row_kept2 h.hrow ht (by simpa using h.ne), by rw [show (mps ++ [x]).length = mps.length + 1 by simp]; exact ho, fun j hj => (h.ok j hj).kept ht (fun x hx => by rw [List.mem_singleton] at hx; rw [hx]; exact (h.fr j hj).2), h.lo, h.dis, fun j hj => ⟨(h.fr j hj).1, ?_⟩, ?_⟩, ht⟩
  · rcases hd with ⟨rfl, _⟩ | ⟨h1, _⟩
    · exact (h.fr j hj).2
    · intro hm
      have := (h.ok j hj).lt g hm
      omega
  · rcases hd with ⟨rfl, _⟩ | ⟨h1, _⟩
    · exact h.ne
    · have := hl.1.2
      omega
theorem pAt_snoc (ps : List (Option PrD)) (o : Option PrD) (j : Nat) (hj : j < (ps ++ [o]).length) : (j < ps.length ∧ pAt (ps ++ [o]) j = pAt ps j) ∨ (j = ps.length ∧ pAt (ps ++ [o]) j = o) := by
  unfold pAt
  rw [List.getD_eq_getElem?_getD, List.getD_eq_getElem?_getD]
  rw [List.length_append, List.length_singleton] at hj
  by_cases h : j < ps.length
  · left; exact ⟨h, by rw [List.getElem?_append_left h]⟩
  · right
    have e : j = ps.length := by omega
    subst e
    exact ⟨rfl, by simp⟩
/-- a heap more -/
theorem PlIn.add {w wr : World} {hg hc : Nat} {hps : List Value} {rg rc : Nat} {mps : List Value} {ps : List (Option PrD)} {X : Nat} (h : PlIn w wr hg hc hps rg rc mps ps X) (o : Option PrD) (ho : okO wr X o)
    (hnew : ∀ x ∈ footO o, w.heap.size ≤ x ∧ x ≠ hg ∧ x ≠ rg ∧ ∀ j, j < ps.length → x ∉ footO (pAt ps j)) : PlIn w wr hg hc hps rg rc mps (ps ++ [o]) X where
  b := h.b
  hrow := h.hrow
  mrow := h.mrow
  ok := fun j hj => by
    rcases pAt_snoc ps o j hj with ⟨h1, e⟩ | ⟨h1, e⟩ <;> rw [e]
    · exact h.ok j h1
    · exact ho
  lo := fun j hj => by
    rcases pAt_snoc ps o j hj with ⟨h1, e⟩ | ⟨h1, e⟩ <;> rw [e]
    · exact h.lo j h1
    · exact fun x hx => (hnew x hx).1
  dis := fun j k hj hk hjk => by
    rcases pAt_snoc ps o j hj with ⟨h1, e⟩ | ⟨h1, e⟩ <;> rcases pAt_snoc ps o k hk with ⟨h2, e2⟩ | ⟨h2, e2⟩ <;> rw [e, e2]
    · exact h.dis j k h1 h2 hjk
    · exact fun x hx hm => (hnew x hm).2.2.2 j h1 hx
    · exact fun x hx => (hnew x hx).2.2.2 k h2
    · omega
  fr := fun j hj => by
    rcases pAt_snoc ps o j hj with ⟨h1, e⟩ | ⟨h1, e⟩ <;> rw [e]
    · exact h.fr j h1
    · exact ⟨fun hm => (hnew _ hm).2.1 rfl, fun hm => (hnew _ hm).2.2.1 rfl⟩
  ne := h.ne
theorem pAt_set (ps : List (Option PrD)) (o : Option PrD) (i j : Nat) (hi : i < ps.length) : pAt (ps.set i o) j = if j = i then o else pAt ps j := by
  unfold pAt
  rw [List.getD_eq_getElem?_getD, List.getD_eq_getElem?_getD]
  split
  · rename_i h; subst h; rw [List.getElem?_set_self hi]; rfl
  · rename_i h; rw [List.getElem?_set_ne (fun e => h e.symm)]
/-- one pair has changed -/
theorem PlIn.upd {w wr w' : World} {hg hc : Nat} {hps : List Value} {rg rc : Nat} {mps : List Value} {ps : List (Option PrD)} {X i : Nat} {p : PrD} (h : PlIn w wr hg hc hps rg rc mps ps X) (hi : i < ps.length) (hp : pAt ps i = some p) {v' rv' : Value} {L' : List Ent} {mv' : Nat}
    (ht : PrTo wr w' p.hb p.mb p.v v' p.rb p.rv rv' L' p.mo mv') (hL : L'.length ≤ X) : PlIn w w' hg hc hps rg rc mps (ps.set i (some { p with v := v', rv := rv', L := L', mv := mv' })) X := by
  have hfi : footO (pAt ps i) = pfoot p.hb p.mb p.v p.rb p.rv := by rw [hp]; rfl
  have hlo := h.lo i hi
  have hfr := h.fr i hi
  rw [hfi] at hlo hfr
  have hl := h.hlt
  have hnew : ∀ x ∈ pfoot p.hb p.mb v' p.rb rv', (x ∈ pfoot p.hb p.mb p.v p.rb p.rv ∨ wr.heap.size ≤ x) := ht.f
  have hs := h.b.size
  refine ⟨h.b.trans (ht.t.below hlo hs), row_kept2 h.hrow ht.t hfr.1, row_kept2 h.mrow ht.t hfr.2, fun j hj => ?_, fun j hj => ?_, fun j k hj hk hjk => ?_, fun j hj => ?_, h.ne⟩
  · rw [List.length_set] at hj
    rw [pAt_set _ _ _ _ hi]
    split
    · exact ⟨ht.p, hL⟩
    · rename_i hji
      exact (h.ok j hj).kept ht.t (fun x hx => by rw [← hfi] at hx; exact h.dis i j hi hj (fun e => hji e.symm) x hx)
  · rw [List.length_set] at hj
    rw [pAt_set _ _ _ _ hi]
    split
    · intro x hx
      rcases hnew x hx with h1 | h1
      · exact hlo x h1
      · omega
    · exact h.lo j hj
  · rw [List.length_set] at hj hk
    rw [pAt_set _ _ _ _ hi, pAt_set _ _ _ _ hi]
    intro x hx hm
    by_cases hji : j = i
    · rw [if_pos hji] at hx
      rw [if_neg (by omega)] at hm
      rcases hnew x hx with h1 | h1
      · rw [← hfi] at h1
        exact h.dis i k hi hk (by omega) x h1 hm
      · have := (h.ok k hk).lt x hm
        omega
    · rw [if_neg hji] at hx
      by_cases hki : k = i
      · rw [if_pos hki] at hm
        rcases hnew x hm with h1 | h1
        · rw [← hfi] at h1
          exact h.dis j i hj hi hji x hx h1
        · have := (h.ok j hj).lt x hx
          omega
      · rw [if_neg hki] at hm
        exact h.dis j k hj hk hjk x hx hm
  · rw [List.length_set] at hj
    rw [pAt_set _ _ _ _ hi]
    split
    · constructor
      · intro hm
        rcases hnew _ hm with h1 | h1
        · exact hfr.1 h1
        · omega
      · intro hm
        rcases hnew _ hm with h1 | h1
        · exact hfr.2 h1
        · omega
    · exact h.fr j hj
theorem map_set_same {ps : List (Option PrD)} {f : Option PrD → Value} {i : Nat} {o : Option PrD} (hi : i < ps.length) (h : f o = f (pAt ps i)) : (ps.set i o).map f = ps.map f := by
  rw [List.map_set, h]
  apply List.ext_getElem?
  intro j
  by_cases hj : i = j
  · subst hj
    rw [List.getElem?_set_self (by simpa using hi), List.getElem?_map]
    unfold pAt
    rw [List.getD_eq_getElem?_getD, List.getElem?_eq_getElem hi]; rfl
  · rw [List.getElem?_set_ne hj]
/-- a pointer in a row -/
theorem PlIn.cells {w wr : World} {hg hc : Nat} {rg rc : Nat} {ps : List (Option PrD)} {X i : Nat} (h : PlIn w wr hg hc (ps.map hP) rg rc (ps.map mP) ps X) (hi : i < ps.length) :
    wr.cell? ⟨hg, i, none⟩ = some (hP (pAt ps i)) ∧ wr.cell? ⟨rg, i, none⟩ = some (mP (pAt ps i)) := by
  have e : ∀ f : Option PrD → Value, (ps.map f)[i]? = some (f (pAt ps i)) := fun f => by
    rw [List.getElem?_map]
    unfold pAt
    rw [List.getD_eq_getElem?_getD, List.getElem?_eq_getElem hi]; rfl
  constructor
  · rw [h.hrow.cellAt i (by simpa using hi)]; exact e hP
  · rw [h.mrow.cellAt i (by simpa using hi)]; exact e mP
set_option maxHeartbeats 1000000 in
theorem which_any (n : Int) (N : Nat) (w : World) (h0 : 0 < N) (hN : N ≤ 1152921504606846976) :
    Calls Tryd.prog 17 #[.int .i64 n, .int .i64 N] w fun e w' => ∃ i : Nat, i < N ∧ e = .returned (.int .i64 i) ∧ w' = w := by
  obtain ⟨m, hm⟩ : ∃ m, n.tmod N = m := ⟨_, rfl⟩
  have hb1 : m < N := by rw [← hm]; exact Int.tmod_lt_of_pos n (by omega)
  have hb2 : -(N : Int) < m := by rw [← hm]; exact Int.lt_tmod_of_pos n (by omega)
  have hw : IntKind.i64.wrap m = m := IntWalk.i64_in _ (by omega)
  have hz : ((N : Int) == 0) = false := by simp; omega
  rcases Int.lt_or_le m 0 with hneg | hpos
  · have hw2 : IntKind.i64.wrap (m + N) = m + N := IntWalk.i64_in _ (by omega)
    obtain ⟨i, hi⟩ : ∃ i : Nat, (i : Int) = m + N := ⟨(m + N).toNat, by omega⟩
    have hd : decide (m < 0) = true := decide_eq_true hneg
    go_enter Tryd.func17, Tryd.ntmps17
    go_wp2
    go_ret
    refine ⟨i, by omega, ?_, rfl⟩
    rw [hi]
    rfl
  · obtain ⟨i, hi⟩ : ∃ i : Nat, (i : Int) = m := ⟨m.toNat, by omega⟩
    have hd : decide (m < 0) = false := decide_eq_false (by omega)
    go_enter Tryd.func17, Tryd.ntmps17
    go_wp2
    go_ret
    refine ⟨i, by omega, ?_, rfl⟩
    rw [hi]
    rfl
end Go.Proofs.YtlodgmmhaolmaaaDoor
