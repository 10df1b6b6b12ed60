/- The walk of the statement NumAnyOrder. Condition: errors.errorType holds the handle of the type error. -/
import Derived.Test.YtpjlikgognhjpaaDoorNumBt
import Derived.Test.YtpjlikgognhjpaaDoorNumSu
import Derived.StillTailTactics
import Derived.Deep.RegionHeld3
import Derived.Deep.OwnRows
import Derived.Lib.QuietBelow
set_option linter.unusedSimpArgs false
set_option linter.unusedVariables false
namespace Go.Proofs.YtpjlikgognhjpaaDoor
open Go.RowKit
theorem cell_set_blk {w : World} {B B' i j : Nat} {u v : Value} (h : w.cell? ⟨B', j, none⟩ = some v) (hB : B ≠ B') : (w.setCell ⟨B, i, none⟩ u).cell? ⟨B', j, none⟩ = some v := by
  rw [World.cell?_setCell_other]; exact h
  intro e; injection e; omega
/-- two boxes of sums, and a row of Bools, none of which was there at the call -/
structure AO (w0 w : World) (A B U n : Nat) (za zb : Int) (u : Nat → Bool) : Prop where
  glob : Glob w
  below : Below w0.heap.size w0 w
  pos : 0 < w0.heap.size
  oa : w0.heap.size ≤ A
  ab : A < B
  bu : B < U
  lt : U < w.heap.size
  a0 : w.cell? ⟨A, 0, none⟩ = some (.int .i64 (hZ za))
  a1 : w.cell? ⟨A, 1, none⟩ = some (.int .u64 (lZ za))
  b0 : w.cell? ⟨B, 0, none⟩ = some (.int .i64 (hZ zb))
  b1 : w.cell? ⟨B, 1, none⟩ = some (.int .u64 (lZ zb))
  uc : ∀ i, i < n → w.cell? ⟨U, i, none⟩ = some (.bool (u i))
  fa : ∀ i, w.frozen? ⟨A, i, none⟩ = false
  fb : ∀ i, w.frozen? ⟨B, i, none⟩ = false
  fu : ∀ i, w.frozen? ⟨U, i, none⟩ = false
theorem AO.step {w0 w w' : World} {A B U n : Nat} {za zb : Int} {u : Nat → Bool} (s : AO w0 w A B U n za zb u) (hb : Below w.heap.size w w') : AO w0 w' A B U n za zb u := by
  have h1 := s.ab
  have h2 := s.bu
  have h3 := s.lt
  exact {
    glob := s.glob.below hb s.glob.lt
    below := s.below.trans (hb.mono s.below.size)
    pos := s.pos
    oa := s.oa
    ab := h1
    bu := h2
    lt := Nat.lt_of_lt_of_le h3 hb.size
    a0 := by rw [hb.cell (p := ⟨A, 0, none⟩) (by show A < _; omega)]; exact s.a0
    a1 := by rw [hb.cell (p := ⟨A, 1, none⟩) (by show A < _; omega)]; exact s.a1
    b0 := by rw [hb.cell (p := ⟨B, 0, none⟩) (by show B < _; omega)]; exact s.b0
    b1 := by rw [hb.cell (p := ⟨B, 1, none⟩) (by show B < _; omega)]; exact s.b1
    uc := fun i hi => by rw [hb.cell (p := ⟨U, i, none⟩) h3]; exact s.uc i hi
    fa := fun i => by rw [hb.frozen (p := ⟨A, i, none⟩) (by show A < _; omega)]; exact s.fa i
    fb := fun i => by rw [hb.frozen (p := ⟨B, i, none⟩) (by show B < _; omega)]; exact s.fb i
    fu := fun i => by rw [hb.frozen (p := ⟨U, i, none⟩) h3]; exact s.fu i }
theorem frozen_out {w : World} {b i : Nat} (h : w.heap.size ≤ b) : w.frozen? ⟨b, i, none⟩ = false := by
  have e : w.heap[b]? = none := by simp; omega
  unfold World.frozen?
  simp [e]
theorem AO.alloc {w0 w : World} (T T' n : Nat) (hG0 : Glob w0) (hG : Glob w) (hb : Below w0.heap.size w0 w) : AO w0 (((w.alloc (.cells #[.int .i64 0, .int .u64 0] T)).alloc (.cells #[.int .i64 0, .int .u64 0] T)).alloc (.cells (madeCells #[.bool false] n) T')) w.heap.size (w.heap.size + 1) (w.heap.size + 1 + 1) n 0 0 (fun _ => false) := by
  exact {
    glob := hG.below (below3 _ _ _ _) hG.lt
    below := hb.trans ((below3 _ _ _ _).mono hb.size)
    pos := hG0.lt
    oa := hb.size
    ab := by omega
    bu := by omega
    lt := by simp only [heap_push, Array.size_push]; omega
    a0 := by rw [World.cell?_alloc_lt _ _ _ (by simp only [heap_push, Array.size_push]; omega), World.cell?_alloc_lt _ _ _ (by simp only [heap_push, Array.size_push]; omega), World.cell?_alloc_at _ _ _ _ rfl]; rfl
    a1 := by rw [World.cell?_alloc_lt _ _ _ (by simp only [heap_push, Array.size_push]; omega), World.cell?_alloc_lt _ _ _ (by simp only [heap_push, Array.size_push]; omega), World.cell?_alloc_at _ _ _ _ rfl]; rfl
    b0 := by rw [World.cell?_alloc_lt _ _ _ (by simp only [heap_push, Array.size_push]; omega), World.cell?_alloc_at _ _ _ _ (by simp only [heap_push, Array.size_push])]; rfl
    b1 := by rw [World.cell?_alloc_lt _ _ _ (by simp only [heap_push, Array.size_push]; omega), World.cell?_alloc_at _ _ _ _ (by simp only [heap_push, Array.size_push])]; rfl
    uc := fun i hi => by
      rw [World.cell?_alloc_at _ _ _ _ (by simp only [heap_push, Array.size_push])]
      simp [madeCells, hi, Nat.mod_one]
    fa := fun i => by simp only [frozen?_alloc_cells]; exact frozen_out (Nat.le_refl _)
    fb := fun i => by simp only [frozen?_alloc_cells]; exact frozen_out (by omega)
    fu := fun i => by simp only [frozen?_alloc_cells]; exact frozen_out (by omega) }
theorem AO.setA {w0 w : World} {A B U n : Nat} {za zb : Int} {u : Nat → Bool} (s : AO w0 w A B U n za zb u) (z : Int) : AO w0 ((w.setCell ⟨A, 0, none⟩ (.int .i64 (hZ z))).setCell ⟨A, 1, none⟩ (.int .u64 (lZ z))) A B U n z zb u := by
  have h0 := s.oa
  have h1 := s.ab
  have h2 := s.bu
  have h3 := s.pos
  exact {
    glob := glob_set (glob_set s.glob (by omega)) (by omega)
    below := (s.below.setCell (p := ⟨A, 0, none⟩) h0 _).setCell (p := ⟨A, 1, none⟩) h0 _
    pos := h3
    oa := h0
    ab := h1
    bu := h2
    lt := by simp only [size_set]; exact s.lt
    a0 := cell_set_ne (cell_set_eq s.a0) (by omega)
    a1 := cell_set_eq (cell_set_ne s.a1 (by omega))
    b0 := cell_set_blk (cell_set_blk s.b0 (by omega)) (by omega)
    b1 := cell_set_blk (cell_set_blk s.b1 (by omega)) (by omega)
    uc := fun i hi => cell_set_blk (cell_set_blk (s.uc i hi) (by omega)) (by omega)
    fa := fun i => by simp only [frozen_set]; exact s.fa i
    fb := fun i => by simp only [frozen_set]; exact s.fb i
    fu := fun i => by simp only [frozen_set]; exact s.fu i }
theorem AO.setB {w0 w : World} {A B U n : Nat} {za zb : Int} {u : Nat → Bool} (s : AO w0 w A B U n za zb u) (z : Int) : AO w0 ((w.setCell ⟨B, 0, none⟩ (.int .i64 (hZ z))).setCell ⟨B, 1, none⟩ (.int .u64 (lZ z))) A B U n za z u := by
  have h0 := s.oa
  have h1 := s.ab
  have h2 := s.bu
  have h3 := s.pos
  exact {
    glob := glob_set (glob_set s.glob (by omega)) (by omega)
    below := (s.below.setCell (p := ⟨B, 0, none⟩) (by show _ ≤ B; omega) _).setCell (p := ⟨B, 1, none⟩) (by show _ ≤ B; omega) _
    pos := h3
    oa := h0
    ab := h1
    bu := h2
    lt := by simp only [size_set]; exact s.lt
    b0 := cell_set_ne (cell_set_eq s.b0) (by omega)
    b1 := cell_set_eq (cell_set_ne s.b1 (by omega))
    a0 := cell_set_blk (cell_set_blk s.a0 (by omega)) (by omega)
    a1 := cell_set_blk (cell_set_blk s.a1 (by omega)) (by omega)
    uc := fun i hi => cell_set_blk (cell_set_blk (s.uc i hi) (by omega)) (by omega)
    fa := fun i => by simp only [frozen_set]; exact s.fa i
    fb := fun i => by simp only [frozen_set]; exact s.fb i
    fu := fun i => by simp only [frozen_set]; exact s.fu i }
theorem AO.setU {w0 w : World} {A B U n : Nat} {za zb : Int} {u : Nat → Bool} (s : AO w0 w A B U n za zb u) (k : Nat) (hk : k < n) : AO w0 (w.setCell ⟨U, k, none⟩ (.bool true)) A B U n za zb (fun j => if j = k then true else u j) := by
  have h0 := s.oa
  have h1 := s.ab
  have h2 := s.bu
  have h3 := s.pos
  exact {
    glob := glob_set s.glob (by omega)
    below := s.below.setCell (p := ⟨U, k, none⟩) (by show _ ≤ U; omega) _
    pos := h3
    oa := h0
    ab := h1
    bu := h2
    lt := by simp only [size_set]; exact s.lt
    b0 := cell_set_blk s.b0 (by omega)
    b1 := cell_set_blk s.b1 (by omega)
    a0 := cell_set_blk s.a0 (by omega)
    a1 := cell_set_blk s.a1 (by omega)
    uc := fun i hi => by
      by_cases hik : i = k
      · subst hik; rw [if_pos rfl]; exact cell_set_eq (s.uc i hi)
      · rw [if_neg hik]; exact cell_set_ne (s.uc i hi) (by omega)
    fa := fun i => by simp only [frozen_set]; exact s.fa i
    fb := fun i => by simp only [frozen_set]; exact s.fb i
    fu := fun i => by simp only [frozen_set]; exact s.fu i }

theorem sumIf_none {f : Nat → Int} : ∀ {n : Nat}, sumIf (fun _ => false) f n = 0
  | 0 => rfl
  | n + 1 => by simp only [sumIf]; rw [sumIf_none (n := n)]; rfl
/-- .. and a third box, that of the round -/
structure AOB (w0 w : World) (A B U n : Nat) (za zb : Int) (u : Nat → Bool) (C : Nat) (z : Int) : Prop where
  ao : AO w0 w A B U n za zb u
  gt : U < C
  lt : C < w.heap.size
  c0 : w.cell? ⟨C, 0, none⟩ = some (.int .i64 (hZ z))
  c1 : w.cell? ⟨C, 1, none⟩ = some (.int .u64 (lZ z))
theorem AO.box {w0 w : World} {A B U n : Nat} {za zb : Int} {u : Nat → Bool} (s : AO w0 w A B U n za zb u) (z : Int) (T : Nat) : AOB w0 (w.alloc (.cells #[.int .i64 (hZ z), .int .u64 (lZ z)] T)) A B U n za zb u w.heap.size z :=
  { ao := s.step (below1 _ _), gt := s.lt, lt := by simp only [heap_push, Array.size_push]; omega
    c0 := by rw [World.cell?_alloc_at _ _ _ _ rfl]; rfl
    c1 := by rw [World.cell?_alloc_at _ _ _ _ rfl]; rfl }
theorem AOB.step {w0 w w' : World} {A B U n : Nat} {za zb : Int} {u : Nat → Bool} {C : Nat} {z : Int} (s : AOB w0 w A B U n za zb u C z) (hb : Below w.heap.size w w') : AOB w0 w' A B U n za zb u C z :=
  { ao := s.ao.step hb, gt := s.gt, lt := Nat.lt_of_lt_of_le s.lt hb.size
    c0 := by rw [hb.cell (p := ⟨C, 0, none⟩) s.lt]; exact s.c0
    c1 := by rw [hb.cell (p := ⟨C, 1, none⟩) s.lt]; exact s.c1 }
theorem AOB.setA {w0 w : World} {A B U n : Nat} {za zb : Int} {u : Nat → Bool} {C : Nat} {z : Int} (s : AOB w0 w A B U n za zb u C z) (x : Int) : AOB w0 ((w.setCell ⟨A, 0, none⟩ (.int .i64 (hZ x))).setCell ⟨A, 1, none⟩ (.int .u64 (lZ x))) A B U n x zb u C z := by
  have h1 := s.ao.ab
  have h2 := s.ao.bu
  have h3 := s.gt
  exact {
    ao := s.ao.setA x, gt := s.gt, lt := by simp only [size_set]; exact s.lt
    c0 := cell_set_blk (cell_set_blk s.c0 (by omega)) (by omega)
    c1 := cell_set_blk (cell_set_blk s.c1 (by omega)) (by omega) }
theorem AOB.seen {w0 w : World} {A B U n : Nat} {za zb : Int} {u : Nat → Bool} {C : Nat} {z : Int} {p : Addr} {v : Value} (hb : p.block < w0.heap.size) (hc : w0.cell? p = some v) (s : AOB w0 w A B U n za zb u C z) :
    w.cell? ⟨A, 0, none⟩ = some (.int .i64 (hZ za)) ∧ w.cell? ⟨A, 1, none⟩ = some (.int .u64 (lZ za)) ∧ w.cell? ⟨C, 0, none⟩ = some (.int .i64 (hZ z)) ∧ w.cell? ⟨C, 1, none⟩ = some (.int .u64 (lZ z)) ∧ w.cell? p = some v ∧ AOB w0 w A B U n za zb u C z :=
  ⟨s.ao.a0, s.ao.a1, s.c0, s.c1, by rw [s.ao.below.cell hb]; exact hc, s⟩
theorem AOB.seen2 {w0 w w' : World} {A B U n : Nat} {za zb : Int} {u : Nat → Bool} {C : Nat} {z : Int} {p : Addr} {v : Value} (hb : p.block < w0.heap.size) (hc : w0.cell? p = some v)
    (h : w.cell? ⟨A, 0, none⟩ = some (.int .i64 (hZ za)) ∧ w.cell? ⟨A, 1, none⟩ = some (.int .u64 (lZ za)) ∧ w.cell? ⟨C, 0, none⟩ = some (.int .i64 (hZ z)) ∧ w.cell? ⟨C, 1, none⟩ = some (.int .u64 (lZ z)) ∧ w.cell? p = some v ∧ AOB w0 w A B U n za zb u C z) (hw : Below w.heap.size w w') :
    w'.cell? ⟨A, 0, none⟩ = some (.int .i64 (hZ za)) ∧ w'.cell? ⟨A, 1, none⟩ = some (.int .u64 (lZ za)) ∧ w'.cell? ⟨C, 0, none⟩ = some (.int .i64 (hZ z)) ∧ w'.cell? ⟨C, 1, none⟩ = some (.int .u64 (lZ z)) ∧ w'.cell? p = some v ∧ AOB w0 w' A B U n za zb u C z :=
  (h.2.2.2.2.2.step hw).seen hb hc
theorem drewB (w : World) : Below w.heap.size w w.drew := ⟨rfl, rfl, rfl, Nat.le_refl _, fun _ _ => rfl⟩
set_option maxHeartbeats 4000000 in
set_option maxRecDepth 100000 in
theorem order_any (A1 A2 : Option Addr) (n cap m cap2 : Nat) (f g : Nat → Int) (w : World) (hG : Glob w) (hmax : n ≤ 281474976710656) (hmax2 : m ≤ 9223372036854775807)
    (hr : 0 < n → ∃ b off, A1 = some ⟨b, off, none⟩ ∧ RowI w b off n f) (hz : ∀ i, i < n → I64 (f i))
    (hr2 : 0 < m → ∃ b off, A2 = some ⟨b, off, none⟩ ∧ RowI w b off m g) (hz2 : ∀ i, i < m → I64 (g i)) :
    Calls Tryd.prog 5 #[.slice A1 n cap, .slice A2 m cap2] w fun e w' => e = .returned (.bool true) ∧ Below w.heap.size w w' := by
  have HR := Lib.hid hr
  have HR2 := Lib.hid hr2
  have HZ := Lib.hid hz
  have HZ2 := Lib.hid hz2
  clear hr hr2 hz hz2
  go_enter Tryd.func5, Tryd.ntmps5
  go_wp2_with fail
  refine (live_any _ hG).mono ?_; rintro r w1 ⟨rfl, h1⟩
  have G1 := hG.below h1 hG.lt
  have hmk := run_make_row' (P := Tryd.prog) 39 4 (.bool false) 1 Tryd.underlying39 (by kernel_rfl) rfl .i64 .i64 n (by omega) (by omega)
  have I := AO.alloc 38 4 n hG G1 h1
  generalize hA : w1.heap.size = A at *
  go_wp2_with fail
  generalize hW : (((w1.alloc (.cells #[.int .i64 0, .int .u64 0] 38)).alloc (.cells #[.int .i64 0, .int .u64 0] 38)).alloc (.cells (madeCells #[.bool false] n) 4)) = w2 at *
  generalize hB : A + 1 = B at *
  generalize hU : B + 1 = U at *
  have I0 := Lib.hid I
  clear I hW hU hB hmk h1 G1 hA hG
  go_loopw [8] (fun i wr => ∃ k : Nat, k ≤ n ∧ i = .int .i64 k ∧ Hid (AO w wr A B U n (sumIf (fun _ => true) f k) 0 (fun _ => false))) (fun i _ => n - (intOf i).toNat)
  case atStart => exact ⟨0, Nat.zero_le _, rfl, I0⟩
  case round =>
    obtain ⟨k, hk, rfl, HI⟩ := hrel
    clear I0
    by_cases hlt : k < n
    · obtain ⟨b, off, rfl, hrow⟩ := HR.out (by omega)
      have hb := cell_lt (hrow k hlt)
      have hc := hrow k hlt
      have hx := HZ.out k hlt
      have hbl := HI.out.below
      have hc' : wr.cell? ⟨b, off + k, none⟩ = some (.int .i64 (f k)) := by rw [hbl.cell (p := ⟨b, off + k, none⟩) hb]; exact hc
      have hbs : b < wr.heap.size := Nat.lt_of_lt_of_le hb hbl.size
      have a0 := HI.out.a0
      have a1 := HI.out.a1
      have fa := HI.out.fa
      have hlt' := HI.out.lt
      have hab := HI.out.ab
      have hbu := HI.out.bu
      have hA : A < wr.heap.size := by omega
      clear hbl hrow
      have hs1 : sumIf (fun _ => true) f (k + 1) = sumIf (fun _ => true) f k + f k := by simp [sumIf]
      have i0 : InS (sumIf (fun _ => true) f k) := sumIf_in (by omega) (fun i hi => HZ.out i (by omega))
      have i1 : InS (sumIf (fun _ => true) f k + f k) := by rw [← hs1]; exact sumIf_in (by omega) (fun i hi => HZ.out i (by omega))
      have HS1 := Lib.hid hs1
      clear hs1
      generalize sumIf (fun _ => true) f k = s at *
      have p1 := fun w => plus_z s (f k) i0 hx i1 w
      have p2 := fun w => minus_z (s + f k) (f k) i1 hx (by rw [Int.add_sub_cancel]; exact i0) w
      rw [Int.add_sub_cancel] at p2
      have p3 := fun w => compare_z (s + f k) s w
      have hcmp : cmpZ (s + f k) s = cmpZ (f k) 0 := by unfold cmpZ; repeat' split <;> omega
      rw [hcmp] at p3
      clear hcmp
      obtain ⟨c, hcz⟩ : ∃ c, cmpZ (f k) 0 = c := ⟨_, rfl⟩
      rw [hcz] at p3
      have HCZ := Lib.hid hcz
      clear hcz
      go_wp2_with fail
      have HB : Hid (AOB w (wr.alloc (.cells #[.int .i64 (hZ s), .int .u64 (lZ s)] 38)) A B U n s 0 (fun _ => false) wr.heap.size s) := Lib.hid (HI.out.box s _)
      clear HI a0 a1 fa hlt' hab hbu hA hc' hbs
      generalize wr.alloc (.cells #[.int .i64 (hZ s), .int .u64 (lZ s)] 38) = wc at *
      generalize wr.heap.size = C at *
      have a0 := HB.out.ao.a0
      have a1 := HB.out.ao.a1
      have fa := HB.out.ao.fa
      have hc' : wc.cell? ⟨b, off + k, none⟩ = some (.int .i64 (f k)) := by rw [HB.out.ao.below.cell (p := ⟨b, off + k, none⟩) hb]; exact hc
      go_still_tail 5, (by kernel_rfl)
      have HD : Hid (AOB w wc.drew A B U n s 0 (fun _ => false) C s) := Lib.hid (HB.out.step (drewB _))
      clear HB a0 a1 fa hc'
      change wpList _ _ _ _ _ wc.drew
      generalize wc.drew = wd at *
      generalize f k = x at *
      generalize hy : s + x = y at *
      go_wp2_with fail
      refine (p1 _).mono ?_; rintro r w3 ⟨rfl, h3⟩
      have HB : Hid (AOB w w3 A B U n s 0 (fun _ => false) C s) := Lib.hid (HD.out.step h3)
      clear HD h3 p1
      have a0 := HB.out.ao.a0
      have a1 := HB.out.ao.a1
      have fa := HB.out.ao.fa
      have HS : Hid (AOB w ((w3.setCell ⟨A, 0, none⟩ (.int .i64 (hZ y))).setCell ⟨A, 1, none⟩ (.int .u64 (lZ y))) A B U n y 0 (fun _ => false) C s) := Lib.hid (HB.out.setA y)
      clear HB
      generalize hw4 : ((w3.setCell ⟨A, 0, none⟩ (.int .i64 (hZ y))).setCell ⟨A, 1, none⟩ (.int .u64 (lZ y))) = w4 at *
      have a0' := HS.out.ao.a0
      have a1' := HS.out.ao.a1
      have c0 := HS.out.c0
      have c1 := HS.out.c1
      go_wp2_with fail
      refine (p3 _).mono ?_; rintro r w5 ⟨rfl, h5⟩
      have HE : Hid (AOB w w5 A B U n y 0 (fun _ => false) C s) := Lib.hid (HS.out.step h5)
      clear HS h5 p3 a0 a1 fa a0' a1' c0 c1 hw4
      go_wp2_with fail
      have ht : (x < 0 ∧ c = -1) ∨ (x = 0 ∧ c = 0) ∨ (0 < x ∧ c = 1) := by
        have := HCZ.out
        unfold cmpZ at this
        rcases Int.lt_trichotomy x 0 with h | h | h
        · rw [if_pos h] at this; exact .inl ⟨h, this.symm⟩
        · rw [if_neg (by omega), if_neg (by omega)] at this; exact .inr (.inl ⟨h, this.symm⟩)
        · rw [if_neg (by omega), if_pos h] at this; exact .inr (.inr ⟨h, this.symm⟩)
      clear HCZ
      obtain ⟨g1, g2, g3, hg1, hg2, hg3, hgg⟩ : ∃ g1 g2 g3 : Bool, decide (0 < x) = g1 ∧ decide (x < 0) = g2 ∧ (x == 0) = g3 ∧ ((g1 = false ∧ g2 = true ∧ g3 = false ∧ c = -1) ∨ (g1 = false ∧ g2 = false ∧ g3 = true ∧ c = 0) ∨ (g1 = true ∧ g2 = false ∧ g3 = false ∧ c = 1)) := by
        refine ⟨_, _, _, rfl, rfl, rfl, ?_⟩
        rcases ht with ⟨hx0, rfl⟩ | ⟨rfl, rfl⟩ | ⟨hx0, rfl⟩
        · refine .inl ⟨?_, ?_, ?_, rfl⟩
          · simp; omega
          · simp; omega
          · simp; omega
        · exact .inr (.inl ⟨rfl, rfl, rfl, rfl⟩)
        · refine .inr (.inr ⟨?_, ?_, ?_, rfl⟩)
          · simp; omega
          · simp; omega
          · simp; omega
      clear ht hx hy i0 i1
      have hcc : w5.cell? ⟨b, off + k, none⟩ = some (.int .i64 x) := by rw [HE.out.ao.below.cell (p := ⟨b, off + k, none⟩) hb]; exact hc
      have q0 := cell_regrown HE.out.ao.a0
      have q1 := cell_regrown HE.out.ao.a1
      have q2 := cell_regrown HE.out.c0
      have q3 := cell_regrown HE.out.c1
      have q4 := cell_regrown hcc
      clear hcc
      rcases hgg with ⟨rfl, rfl, rfl, rfl⟩ | ⟨rfl, rfl, rfl, rfl⟩ | ⟨rfl, rfl, rfl, rfl⟩
      all_goals (
        refine wp_region_quiet_below (by kernel_rfl) (by kernel_rfl) ?_
        repeat (quiet_step (exact Calls.regrown_of (p2 _)))
        refine wpQuiet_nil ?_
        intro _ hw'
        obtain ⟨⟨dq, osq⟩, hw''⟩ := hw'
        subst hw''
        have HF : Hid (AO w (Go.Sort.grow (redrawn w5 dq) osq) A B U n y 0 (fun _ => false)) := Lib.hid (HE.out.ao.step (below_regrown w5 dq osq))
        generalize Go.Sort.grow (redrawn w5 dq) osq = w6 at *
        clear HE q0 q1 q2 q3 q4
        go_wp2
        exact ⟨⟨k + 1, by omega, by rw [Int.natCast_succ], by rw [HS1.out]; exact HF⟩, by simp only [intOf]; omega⟩)
    · obtain rfl : k = n := by omega
      go_wp2_with fail
      have HJ : Hid (AO w wr A B U k (sumIf (fun _ => true) f k) (sumIf (fun _ => false) f k) (fun _ => false)) := by rw [sumIf_none]; exact HI
      clear HI
      have HT : Hid (InS (sumIf (fun _ => true) f k)) := Lib.hid (sumIf_in (by omega) HZ.out)
      generalize hSn : sumIf (fun _ => true) f k = sn at *
      have HSn := Lib.hid hSn
      clear hSn
      go_loopw [11] (fun i wr => ∃ (j : Nat) (u : Nat → Bool), j ≤ m ∧ i = .int .i64 j ∧ Hid (AO w wr A B U k sn (sumIf u f k) u)) (fun i _ => m - (intOf i).toNat)
      case atStart => exact ⟨0, _, Nat.zero_le _, rfl, HJ⟩
      case round =>
        obtain ⟨j, u, hj, rfl, HI⟩ := hrel
        clear HJ
        by_cases hlt : j < m
        · obtain ⟨b, off, rfl, hrow⟩ := HR2.out (by omega)
          have hb := cell_lt (hrow j hlt)
          have hc := hrow j hlt
          have hbl := HI.out.below
          have hc' : wr.cell? ⟨b, off + j, none⟩ = some (.int .i64 (g j)) := by rw [hbl.cell (p := ⟨b, off + j, none⟩) hb]; exact hc
          generalize hx : g j = x at *
          by_cases h0 : 0 ≤ x
          · obtain ⟨q, rfl⟩ : ∃ q : Nat, x = q := ⟨x.toNat, by omega⟩
            by_cases h1 : q < k
            · obtain ⟨b1, off1, rfl, hrow1⟩ := HR.out (by omega)
              have hu := HI.out.uc q h1
              have fu := HI.out.fu
              cases huq : u q
              · rw [huq] at hu
                have hcf : wr.cell? ⟨b1, off1 + q, none⟩ = some (.int .i64 (f q)) := by rw [hbl.cell (p := ⟨b1, off1 + q, none⟩) (cell_lt (hrow1 q h1))]; exact hrow1 q h1
                clear hbl
                go_wp2_with fail
                have HU : Hid (AO w (wr.setCell ⟨U, q, none⟩ (.bool true)) A B U k sn (sumIf u f k) (fun j => if j = q then true else u j)) := Lib.hid (HI.out.setU q h1)
                clear HI hu fu hc' hcf
                have hsum := sumIf_upd (f := f) q huq h1
                have i0 : InS (sumIf u f k) := sumIf_in (by omega) HZ.out
                have i1 : InS (sumIf u f k + f q) := by rw [← hsum]; exact sumIf_in (by omega) HZ.out
                have p1 := fun w => plus_z (sumIf u f k) (f q) i0 (HZ.out q h1) i1 w
                rw [← hsum] at p1
                clear hsum i0 i1
                have hq0 : (0 : Int) ≤ (q : Int) := h0
                generalize (fun j => if j = q then true else u j) = u' at *
                generalize wr.setCell ⟨U, q, none⟩ (.bool true) = wu at *
                have hc' : wu.cell? ⟨b, off + j, none⟩ = some (.int .i64 q) := by rw [HU.out.below.cell (p := ⟨b, off + j, none⟩) hb]; exact hc
                have hcf : wu.cell? ⟨b1, off1 + q, none⟩ = some (.int .i64 (f q)) := by rw [HU.out.below.cell (p := ⟨b1, off1 + q, none⟩) (cell_lt (hrow1 q h1))]; exact hrow1 q h1
                have b0 := HU.out.b0
                have b1' := HU.out.b1
                go_still_tail 8, (by kernel_rfl)
                have HD : Hid (AO w wu.drew A B U k sn (sumIf u f k) u') := Lib.hid (HU.out.step (drewB _))
                clear HU b0 b1' hc' hcf
                change wpList _ _ _ _ _ wu.drew
                generalize wu.drew = wd at *
                go_wp2_with fail
                refine (p1 _).mono ?_; rintro r w3 ⟨rfl, h3⟩
                have HB : Hid (AO w w3 A B U k sn (sumIf u f k) u') := Lib.hid (HD.out.step h3)
                clear HD h3 p1
                have b0 := HB.out.b0
                have b1' := HB.out.b1
                have fb := HB.out.fb
                have HS : Hid (AO w ((w3.setCell ⟨B, 0, none⟩ (.int .i64 (hZ (sumIf u' f k)))).setCell ⟨B, 1, none⟩ (.int .u64 (lZ (sumIf u' f k)))) A B U k sn (sumIf u' f k) u') := Lib.hid (HB.out.setB _)
                clear HB
                go_wp2
                exact ⟨⟨j + 1, u', by omega, by rw [Int.natCast_succ], HS⟩, by simp only [intOf]; omega⟩
              · rw [huq] at hu
                clear hbl
                go_wp2
                exact ⟨⟨j + 1, u, by omega, by rw [Int.natCast_succ], HI⟩, by simp only [intOf]; omega⟩
            · clear hbl
              go_wp2
              exact ⟨⟨j + 1, u, by omega, by rw [Int.natCast_succ], HI⟩, by simp only [intOf]; omega⟩
          · clear hbl
            go_wp2
            exact ⟨⟨j + 1, u, by omega, by rw [Int.natCast_succ], HI⟩, by simp only [intOf]; omega⟩
        · obtain rfl : j = m := by omega
          clear HR2 HZ2
          go_wp2_with fail
          have HJ : Hid (AO w wr A B U k sn (sumIf (fun i => u i || decide (i < 0)) f k) u) := by
            rw [sumIf_congr (q := u) (fun i _ => by simp)]; exact HI
          clear HI
          go_loopw [12] (fun i wr => ∃ (t : Nat), t ≤ k ∧ i = .int .i64 t ∧ Hid (AO w wr A B U k sn (sumIf (fun i => u i || decide (i < t)) f k) u)) (fun i _ => k - (intOf i).toNat)
          case atStart => exact ⟨0, Nat.zero_le _, rfl, HJ⟩
          case round =>
            obtain ⟨t, ht, rfl, HI⟩ := hrel
            clear HJ
            by_cases hlt : t < k
            · obtain ⟨b1, off1, rfl, hrow1⟩ := HR.out (by omega)
              have hu := HI.out.uc t hlt
              cases hut : u t
              · rw [hut] at hu
                have hcf : wr.cell? ⟨b1, off1 + t, none⟩ = some (.int .i64 (f t)) := by rw [HI.out.below.cell (p := ⟨b1, off1 + t, none⟩) (cell_lt (hrow1 t hlt))]; exact hrow1 t hlt
                have hpt : (fun i => u i || decide (i < t)) t = false := by simp [hut]
                have hsum := sumIf_upd (p := fun i => u i || decide (i < t)) (f := f) t hpt hlt
                rw [sumIf_congr (q := fun i => u i || decide (i < t + 1)) (fun i _ => by
                  by_cases hit : i = t
                  · subst hit; simp
                  · have : (i < t) ↔ (i < t + 1) := by omega
                    simp [hit, this])] at hsum
                have i0 : InS (sumIf (fun i => u i || decide (i < t)) f k) := sumIf_in (by omega) HZ.out
                have i1 : InS (sumIf (fun i => u i || decide (i < t)) f k + f t) := by rw [← hsum]; exact sumIf_in (by omega) HZ.out
                have p1 := fun w => plus_z _ (f t) i0 (HZ.out t hlt) i1 w
                rw [← hsum] at p1
                clear hsum i0 i1 hpt
                generalize hz1 : sumIf (fun i => u i || decide (i < t + 1)) f k = z1 at *
                generalize sumIf (fun i => u i || decide (i < t)) f k = z0 at *
                have b0 := HI.out.b0
                have b1' := HI.out.b1
                have HZ1 := Lib.hid hz1
                clear hz1
                go_wp2_with fail
                go_still_tail 5, (by kernel_rfl)
                have HD : Hid (AO w wr.drew A B U k sn z0 u) := Lib.hid (HI.out.step (drewB _))
                clear HI b0 b1' hcf hu
                change wpList _ _ _ _ _ wr.drew
                generalize wr.drew = wd at *
                go_wp2_with fail
                refine (p1 _).mono ?_; rintro r w3 ⟨rfl, h3⟩
                have HB : Hid (AO w w3 A B U k sn z0 u) := Lib.hid (HD.out.step h3)
                clear HD h3 p1
                have b0 := HB.out.b0
                have b1' := HB.out.b1
                have fb := HB.out.fb
                have HS : Hid (AO w ((w3.setCell ⟨B, 0, none⟩ (.int .i64 (hZ z1))).setCell ⟨B, 1, none⟩ (.int .u64 (lZ z1))) A B U k sn z1 u) := Lib.hid (HB.out.setB _)
                clear HB
                go_wp2
                exact ⟨⟨t + 1, by omega, by rw [Int.natCast_succ], by rw [HZ1.out]; exact HS⟩, by simp only [intOf]; omega⟩
              · rw [hut] at hu
                have hsum : sumIf (fun i => u i || decide (i < t)) f k = sumIf (fun i => u i || decide (i < t + 1)) f k := sumIf_congr (fun i _ => by
                  by_cases hit : i = t
                  · subst hit; simp [hut]
                  · have : (i < t) ↔ (i < t + 1) := by omega
                    simp [this])
                rw [hsum] at HI
                clear hsum
                go_wp2
                exact ⟨⟨t + 1, by omega, by rw [Int.natCast_succ], HI⟩, by simp only [intOf]; omega⟩
            · obtain rfl : t = k := by omega
              have HJ : Hid (AO w wr A B U t sn sn u) := by
                have : sumIf (fun i => u i || decide (i < t)) f t = sn := by
                  rw [← HSn.out]; exact sumIf_congr (fun i hi => by simp [hi])
                rw [this] at HI; exact HI
              clear HI
              have a0 := HJ.out.a0
              have a1 := HJ.out.a1
              have b0 := HJ.out.b0
              have b1 := HJ.out.b1
              go_wp2_with fail
              clear a0 a1 b0 b1 
              have HK : Hid (AO w wr A B U t (sn - sumIf (fun _ => true) f 0) sn u) := by simpa [sumIf] using HJ
              clear HJ
              go_loopw [13] (fun i wr => ∃ (r : Nat), r ≤ t ∧ i = .int .i64 r ∧ Hid (AO w wr A B U t (sn - sumIf (fun _ => true) f r) sn u)) (fun i _ => t - (intOf i).toNat)
              case atStart => exact ⟨0, Nat.zero_le _, rfl, HK⟩
              case round =>
                obtain ⟨r, hr, rfl, HI⟩ := hrel
                clear HK
                by_cases hlt : r < t
                · obtain ⟨b1, off1, rfl, hrow1⟩ := HR.out (by omega)
                  have hcf : wr.cell? ⟨b1, off1 + r, none⟩ = some (.int .i64 (f r)) := by rw [HI.out.below.cell (p := ⟨b1, off1 + r, none⟩) (cell_lt (hrow1 r hlt))]; exact hrow1 r hlt
                  have hs1 : sn - sumIf (fun _ => true) f (r + 1) = (sn - sumIf (fun _ => true) f r) - f r := by simp only [sumIf, if_true]; omega
                  have hin : ∀ r, r ≤ t → InS (sn - sumIf (fun _ => true) f r) := by
                    intro r hr
                    have e1 := sumIf_bound (p := fun _ => true) (f := f) (n := r) (fun i hi => HZ.out i (by omega))
                    have e2 := sumIf_bound (p := fun _ => true) (f := f) (n := t) HZ.out
                    rw [HSn.out] at e2
                    constructor <;> omega
                  have i0 := hin r (by omega)
                  have i1 := hin (r + 1) hlt
                  rw [hs1] at i1
                  have p1 := fun w => minus_z _ (f r) i0 (HZ.out r hlt) i1 w
                  have HS1 := Lib.hid hs1
                  rw [← hs1] at p1
                  clear hs1 i0 i1 hin
                  generalize hz1 : sn - sumIf (fun _ => true) f (r + 1) = z1 at *
                  generalize sn - sumIf (fun _ => true) f r = z0 at *
                  have a0 := HI.out.a0
                  have a1 := HI.out.a1
                  have HZ1 := Lib.hid hz1
                  clear hz1
                  go_wp2_with fail
                  go_still_tail 5, (by kernel_rfl)
                  have HD : Hid (AO w wr.drew A B U t z0 sn u) := Lib.hid (HI.out.step (drewB _))
                  clear HI a0 a1 hcf
                  change wpList _ _ _ _ _ wr.drew
                  generalize wr.drew = wd at *
                  go_wp2_with fail
                  refine (p1 _).mono ?_; rintro r w3 ⟨rfl, h3⟩
                  have HB : Hid (AO w w3 A B U t z0 sn u) := Lib.hid (HD.out.step h3)
                  clear HD h3 p1
                  have a0 := HB.out.a0
                  have a1 := HB.out.a1
                  have fa := HB.out.fa
                  have HS : Hid (AO w ((w3.setCell ⟨A, 0, none⟩ (.int .i64 (hZ z1))).setCell ⟨A, 1, none⟩ (.int .u64 (lZ z1))) A B U t z1 sn u) := Lib.hid (HB.out.setA _)
                  clear HB
                  go_wp2
                  exact ⟨⟨r + 1, by omega, by rw [Int.natCast_succ], by rw [HZ1.out]; exact HS⟩, by simp only [intOf]; omega⟩
                · obtain rfl : r = t := by omega
                  have HJ : Hid (AO w wr A B U r 0 sn u) := by
                    rw [HSn.out, Int.sub_self] at HI; exact HI
                  clear HI
                  have a0 := HJ.out.a0
                  have a1 := HJ.out.a1
                  rw [hZ_zero] at a0
                  rw [lZ_zero] at a1
                  go_wp2
                  go_ret
                  exact ⟨rfl, HJ.out.below⟩
end Go.Proofs.YtpjlikgognhjpaaDoor
