/- num.Print. -/
import Derived.Test.YthlfbakndbjhoaaNumPr
import Derived.Deep.OwnRows
set_option linter.unusedSimpArgs false
set_option linter.unusedVariables false
namespace Go.Proofs.Ythlfbakndbjhoaa
open Go.RowKit
/-- the digits' box: L lies in it from place k to the end -/
structure DG (w0 w : World) (D k : Nat) (L : List UInt8) : Prop where
  below : Below w0.heap.size w0 w
  old : w0.heap.size ≤ D
  lt : D < w.heap.size
  len : k + L.length = 40
  f : ∀ j, w.frozen? ⟨D, j, none⟩ = false
  all : ∀ j, j < 40 → ∃ n, w.cell? ⟨D, j, none⟩ = some (.int .u8 n)
  row : ∀ j (hj : j < L.length), w.cell? ⟨D, k + j, none⟩ = some (.int .u8 (L[j].toNat : Int))
theorem DG.step {w0 w w' : World} {D k : Nat} {L : List UInt8} (g : DG w0 w D k L) (hb : Below w.heap.size w w') : DG w0 w' D k L where
  below := g.below.trans (hb.mono g.below.size)
  old := g.old
  lt := Nat.lt_of_lt_of_le g.lt hb.size
  len := g.len
  f := fun j => by rw [hb.frozen (p := ⟨D, j, none⟩) g.lt]; exact g.f j
  all := fun j hj => by rw [hb.cell (p := ⟨D, j, none⟩) g.lt]; exact g.all j hj
  row := fun j hj => by rw [hb.cell (p := ⟨D, k + j, none⟩) g.lt]; exact g.row j hj
theorem DG.put {w0 w : World} {D k : Nat} {L : List UInt8} (g : DG w0 w D (k + 1) L) (b : UInt8) (n : Int) (hn : n = b.toNat) : DG w0 (w.setCell ⟨D, k, none⟩ (.int .u8 n)) D k (b :: L) where
  below := g.below.setCell (p := ⟨D, k, none⟩) g.old _
  old := g.old
  lt := by simp only [size_set]; exact g.lt
  len := by have := g.len; simp only [List.length_cons]; omega
  f := fun j => by simp only [frozen_set]; exact g.f j
  all := fun j hj => by
    obtain ⟨v, hv⟩ := g.all j hj
    by_cases hjk : k = j
    · subst hjk; exact ⟨n, cell_set_eq hv⟩
    · exact ⟨v, cell_set_ne hv hjk⟩
  row := fun j hj => by
    have hl := g.len
    cases j with
    | zero =>
      obtain ⟨v, hv⟩ := g.all k (by omega)
      simp only [Nat.add_zero, List.getElem_cons_zero]
      rw [← hn]
      exact cell_set_eq hv
    | succ j =>
      simp only [List.getElem_cons_succ]
      have := g.row j (by simpa using hj)
      rw [show k + 1 + j = k + (j + 1) by omega] at this
      exact cell_set_ne this (by omega)
theorem DG.alloc (w : World) (T T' : Nat) (h l : Int) : DG w ((w.alloc (.cells #[.int .i64 h, .int .u64 l] T)).alloc (.cells #[.int .u8 0, .int .u8 0, .int .u8 0, .int .u8 0, .int .u8 0, .int .u8 0, .int .u8 0, .int .u8 0, .int .u8 0, .int .u8 0, .int .u8 0, .int .u8 0, .int .u8 0, .int .u8 0, .int .u8 0, .int .u8 0, .int .u8 0, .int .u8 0, .int .u8 0, .int .u8 0, .int .u8 0, .int .u8 0, .int .u8 0, .int .u8 0, .int .u8 0, .int .u8 0, .int .u8 0, .int .u8 0, .int .u8 0, .int .u8 0, .int .u8 0, .int .u8 0, .int .u8 0, .int .u8 0, .int .u8 0, .int .u8 0, .int .u8 0, .int .u8 0, .int .u8 0, .int .u8 0] T')) (w.heap.size + 1) 40 [] where
  below := below2 _ _ _
  old := by omega
  lt := by simp only [heap_push, Array.size_push]; omega
  len := rfl
  f := fun j => by
    rw [frozen?_alloc_cells, frozen?_alloc_cells]
    have e : w.heap[w.heap.size + 1]? = none := by simp
    unfold World.frozen?
    simp [e]
  all := fun j hj => ⟨0, by
    rw [World.cell?_alloc_at _ _ _ _ (by simp only [heap_push, Array.size_push])]
    have e : (#[Value.int .u8 0, .int .u8 0, .int .u8 0, .int .u8 0, .int .u8 0, .int .u8 0, .int .u8 0, .int .u8 0, .int .u8 0, .int .u8 0, .int .u8 0, .int .u8 0, .int .u8 0, .int .u8 0, .int .u8 0, .int .u8 0, .int .u8 0, .int .u8 0, .int .u8 0, .int .u8 0, .int .u8 0, .int .u8 0, .int .u8 0, .int .u8 0, .int .u8 0, .int .u8 0, .int .u8 0, .int .u8 0, .int .u8 0, .int .u8 0, .int .u8 0, .int .u8 0, .int .u8 0, .int .u8 0, .int .u8 0, .int .u8 0, .int .u8 0, .int .u8 0, .int .u8 0, .int .u8 0] : Array Value) = Array.replicate 40 (.int .u8 0) := rfl
    rw [e, Array.getElem?_replicate, if_pos hj]⟩
  row := fun j hj => absurd hj (by simp)
/-- the digits' bytes as values -/
def u8s (L : List UInt8) : List Value := L.map (fun b => Value.int .u8 (b.toNat : Int))
/-- the bytes copied out, and made a text -/
theorem DG.fin {w0 w : World} {D k : Nat} {L : List UInt8} (g : DG w0 w D k L) (hL : 0 < L.length) (c : Nat) :
    (∀ ty, (Builtin.copy_ #[42, 42] ty #[.slice (some ⟨w.heap.size, 0, none⟩) L.length L.length, .slice (some ⟨D, k, none⟩) L.length c]).run Try.prog (w.alloc (.cells (madeCells #[.int .u8 0] L.length) 5)) =
      .ok (goInt L.length) ((w.alloc (.cells (madeCells #[.int .u8 0] L.length) 5)).setCells w.heap.size 0 (u8s L))) ∧
    (convert 42 9 (.slice (some ⟨w.heap.size, 0, none⟩) L.length L.length)).run Try.prog ((w.alloc (.cells (madeCells #[.int .u8 0] L.length) 5)).setCells w.heap.size 0 (u8s L)) =
      .ok (.string ⟨L.toArray⟩) ((w.alloc (.cells (madeCells #[.int .u8 0] L.length) 5)).setCells w.heap.size 0 (u8s L)) ∧
    Below w0.heap.size w0 ((w.alloc (.cells (madeCells #[.int .u8 0] L.length) 5)).setCells w.heap.size 0 (u8s L)) := by
  have hlen : (u8s L).length = L.length := by simp [u8s]
  have hcell : ∀ j, j < (u8s L).length → ((w.alloc (.cells (madeCells #[.int .u8 0] L.length) 5)).cell? ⟨w.heap.size, 0 + j, none⟩).isSome = true := fun j hj => by
    rw [World.cell?_alloc_at _ _ _ _ rfl]
    have : 0 + j < (madeCells #[.int .u8 0] L.length).size := by rw [size_madeCells]; omega
    rw [Array.getElem?_eq_getElem this]; rfl
  refine ⟨fun ty => ?_, ?_, ?_⟩
  · have := run_copy_cells (P := Try.prog) (w.alloc (.cells (madeCells #[.int .u8 0] L.length) 5)) 42 42 ty 5 w.heap.size 0 L.length L.length ⟨D, k, none⟩ L.length c (u8s L) Try.underlying42 (by kernel_rfl) (by rw [hlen]; exact (Nat.min_self _).symm) (fun j v hj => by
        have hjl : j < L.length := by
          have := (List.getElem?_eq_some_iff.1 hj).1
          omega
        have e : (⟨D, k, none⟩ : Addr).add j = ⟨D, k + j, none⟩ := by simp [Addr.add]
        rw [e, World.cell?_alloc_lt _ _ _ g.lt, g.row j hjl]
        simp only [u8s, List.getElem?_map, List.getElem?_eq_getElem hjl, Option.map_some, Option.some.injEq] at hj
        rw [hj]) hcell (fun j hj => World.frozen?_alloc_at _ _ _ _ rfl) (fun v hv => by
        simp only [u8s, List.mem_map] at hv
        obtain ⟨b, _, rfl⟩ := hv
        rfl)
    rw [hlen] at this
    exact this
  · refine run_convert_bytes_back (P := Try.prog) _ 42 9 5 ⟨w.heap.size, 0, none⟩ L.length L Try.underlying42 Try.underlying5 Try.underlying9 (fun j hj => ?_)
    have e : (⟨w.heap.size, 0, none⟩ : Addr).add j = ⟨w.heap.size, 0 + j, none⟩ := by unfold Addr.add; split <;> simp_all
    rw [e, World.cell?_setCells_in w.heap.size (u8s L) 0 _ hcell j (by omega)]
    simp only [u8s, List.getElem_map]
  · have h1 : Below w0.heap.size w0 (w.alloc (.cells (madeCells #[.int .u8 0] L.length) 5)) := g.below.trans ((below1 _ _).mono g.below.size)
    have : ∀ (vs : List Value) (o : Nat) (W : World), Below w0.heap.size w0 W → Below w0.heap.size w0 (W.setCells w.heap.size o vs) := by
      intro vs
      induction vs with
      | nil => intro o W h; exact h
      | cons v r ih => intro o W h; exact ih (o + 1) _ (h.setCell (p := ⟨w.heap.size, o, none⟩) g.below.size _)
    exact this _ _ _ h1
set_option maxRecDepth 100000 in
theorem digits_slice (i : Int) (k nn : Nat) (hi : i = k) (h : k + nn = 40) (hn : 0 < nn) (D : Nat) (W : World) :
    (Instr.sliceAt 39 (.pointer (some ⟨D, 0, none⟩)) (some (.int .i64 i)) none none).run Try.prog W = .ok (.slice (some ⟨D, k, none⟩) nn nn) W := by
  subst hi
  have e := run_sliceAt_array_l (P := Try.prog) W 39 ⟨D, 0, none⟩ Try.underlying39 .i64 (k : Int) (by omega) (by show (k : Int) ≤ 40; omega)
  rw [e]
  have hz : (sizeOf (Try.prog.elem 39)).run Try.prog W = .ok 1 W := rfl
  rw [hz]
  show Result.ok (Value.slice (some (if 40 = (k : Int).toNat then (⟨D, 0, none⟩ : Addr) else (⟨D, 0, none⟩ : Addr).add ((k : Int).toNat * 1))) (40 - (k : Int).toNat) (40 - (k : Int).toNat)) W = _
  rw [if_neg (by omega), show 40 - (k : Int).toNat = nn by omega]
  simp [Addr.add]
  omega
set_option maxHeartbeats 4000000 in
set_option maxRecDepth 100000 in
theorem print_any (h l : Int) (w : World) (hs : SumW h l) :
    Calls Try.prog 8 #[.agg #[.int .i64 h, .int .u64 l]] w fun e w' => e = .returned (strV (printL (sZ h l))) ∧ Below w.heap.size w w' := by
  have hsz := fun w => size_any h l w hs
  obtain ⟨a0, a1, b0, b1, hv⟩ := abs_val h l hs
  generalize absHi h l = ah at *
  generalize absLo h l = al at *
  have HV := Lib.hid hv
  clear hv
  go_enter Try.func8, Try.ntmps8
  go_wp2_with fail
  refine (hsz _).mono ?_; rintro e w1 ⟨rfl, h1⟩
  have HI := Lib.hid ((DG.alloc w _ _ h l).step h1)
  clear h1 hsz
  generalize hD : w.heap.size + 1 = D at *
  clear hD
  generalize hSz : w.heap.size = S at *
  have HSz := Lib.hid hSz
  clear hSz
  obtain ⟨M, hM, hMv⟩ : ∃ M : Nat, (M : Int) = ah * 18446744073709551616 + al ∧ M = (sZ h l).natAbs := ⟨(sZ h l).natAbs, by have := sgn_iff hs; rw [HV.out]; split <;> omega, rfl⟩
  have HM := Lib.hid hMv
  have HM2 := Lib.hid hM
  have hM39 : (decN M).length ≤ 39 := decN_len 38 M (by
    have : (10 : Nat) ^ (38 + 1) = 1000000000000000000000000000000000000000 := by decide
    omega)
  clear hMv HV hM
  go_wp2_with fail
  go_loopw [4, 5, 7] (fun hi lo i wr => ∃ (m k : Nat) (x y : Int) (L : List UInt8), hi = .int .u64 x ∧ lo = .int .u64 y ∧ i = .int .i64 k ∧ 0 ≤ x ∧ x ≤ 18446744073709551615 ∧ 0 ≤ y ∧ y ≤ 18446744073709551615 ∧ Hid ((m : Int) = x * 18446744073709551616 + y) ∧ Hid (decN M = decN m ++ L) ∧ Hid (DG w wr D k L)) (fun hi lo _ _ => (intOf hi * 18446744073709551616 + intOf lo).toNat)
  case atStart => exact ⟨M, 40, ah, al, [], rfl, rfl, rfl, a0, by omega, b0, b1, HM2, Lib.hid (by simp), HI⟩
  case round =>
    obtain ⟨m, k, x, y, L, rfl, rfl, rfl, x0, x1, y0, y1, HX, HP, HI⟩ := hrel
    obtain ⟨k, rfl⟩ : ∃ j, k = j + 1 + 1 := ⟨k - 2, by
      have h1 := HP.out
      have h2 : (decN m).length ≠ 0 := fun e => decN_ne m (List.length_eq_zero_iff.1 e)
      rw [h1, List.length_append] at hM39
      have := HI.out.len
      omega⟩
    have hk : k + 1 + 1 ≤ 40 := by have := HI.out.len; omega
    obtain ⟨x', hx'⟩ : ∃ q, q = x / 10 := ⟨_, rfl⟩
    obtain ⟨r, hr⟩ : ∃ q, q = x % 10 := ⟨_, rfl⟩
    obtain ⟨q, hq⟩ : ∃ q, q = (r * 18446744073709551616 + y) / 10 := ⟨_, rfl⟩
    obtain ⟨d, hd, hd10⟩ : ∃ d : Nat, (d : Int) = (r * 18446744073709551616 + y) % 10 ∧ d < 10 := ⟨((r * 18446744073709551616 + y) % 10).toNat, by omega, by omega⟩
    have p1 := fun w => div64_q r y 10 q d w (by omega) (by omega) y0 y1 (by omega) hq hd
    have HE : Hid (((m / 10 : Nat) : Int) = x' * 18446744073709551616 + q ∧ m % 10 = d ∧ 0 ≤ q ∧ q ≤ 18446744073709551615 ∧ 0 ≤ x' ∧ x' ≤ 18446744073709551615) := Lib.hid (by have := HX.out; omega)
    have hx1 : x / 10 = x' := hx'.symm
    have hx2 : x % 10 = r := hr.symm
    have hx3 : x.tdiv 10 = x' := by rw [Int.tdiv_eq_ediv_of_nonneg x0]; exact hx1
    have hx4 : x.tmod 10 = r := by rw [Int.tmod_eq_emod_of_nonneg x0]; exact hx2
    clear hq hd hx' hr
    go_wp2_with fail
    refine (p1 _).mono ?_; rintro e w2 ⟨rfl, h2⟩
    have HJ : Hid (DG w w2 D (k + 1 + 1) L) := Lib.hid (HI.out.step h2)
    clear HI h2 p1
    have e1 : ((k + 1 + 1 : Nat) : Int) - 1 = ((k + 1 : Nat) : Int) := by omega
    have fD := HJ.out.f
    obtain ⟨v, hv⟩ := HJ.out.all (k + 1) (by omega)
    have hk2 : k + 1 < 40 := by omega
    have HS : Hid (DG w (w2.setCell ⟨D, k + 1, none⟩ (.int .u8 (48 + (d : Int)))) D (k + 1) (dig d :: L)) := Lib.hid (HJ.out.put (dig d) _ (by rw [dig_toNat hd10]; omega))
    have HP' := HP.out
    by_cases hx0 : x' = 0
    · subst hx0
      by_cases hq0 : q = 0
      · subst hq0
        have hm : decN M = dig d :: L := by
          rw [HP', decN_small (by have := HE.out; omega)]
          have : m = d := by have := HE.out; omega
          rw [this]; rfl
        clear HP' HE HX HP hx1 hx2 hx3 hx4 x0 x1 y0 y1
        obtain ⟨v', hv'⟩ := HJ.out.all k (by omega)
        have hk3 : k < 40 := by omega
        cases hng : isNeg h
        · have hng' : ¬ h < 0 := by unfold isNeg at hng; simpa using hng
          obtain ⟨nn, hnn⟩ : ∃ nn, (dig d :: L).length = nn := ⟨_, rfl⟩
          have hl := HS.out.len
          rw [hnn] at hl
          have e2 : (40 : Int) - ((k : Int) + 1) = (nn : Int) := by omega
          have hn1 : 0 < nn := by rw [← hnn]; simp
          have hmk := run_make_row' (P := Try.prog) 42 5 (.int .u8 0) 1 Try.underlying42 (by kernel_rfl) rfl .i64 .i64 nn (by omega) (by omega)
          have hsl := digits_slice ((k : Int) + 1) (k + 1) nn (by omega) hl hn1 D
          obtain ⟨f1, f2, f3⟩ := HS.out.fin (by simp) nn
          rw [hnn] at f1 f2 f3
          simp only [size_set] at f1 f2 f3
          have HF := Lib.hid f3
          clear f3
          go_wp2
          go_ret
          rw [show strV (printL (sZ h l)) = .string ⟨(dig d :: L).toArray⟩ by
            have hz := sgn_iff hs
            unfold strV printL
            rw [if_neg (fun z => by have := hz.2 z; omega), ← HM.out, hm]]
          exact ⟨rfl, HF.out⟩
        · have hng' : h < 0 := by unfold isNeg at hng; simpa using hng
          have HS2 := Lib.hid (HS.out.put 45 45 rfl)
          have e3 : (k : Int) + 1 - 1 = k := by omega
          have hv2 : (w2.setCell ⟨D, k + 1, none⟩ (.int .u8 (48 + (d : Int)))).cell? ⟨D, k, none⟩ = some (.int .u8 v') := cell_set_ne hv' (by omega)
          obtain ⟨nn, hnn⟩ : ∃ nn, (45 :: dig d :: L).length = nn := ⟨_, rfl⟩
          have hl := HS2.out.len
          rw [hnn] at hl
          have e2 : (40 : Int) - ((k : Int)) = (nn : Int) := by omega
          have hn1 : 0 < nn := by rw [← hnn]; simp
          have hmk := run_make_row' (P := Try.prog) 42 5 (.int .u8 0) 1 Try.underlying42 (by kernel_rfl) rfl .i64 .i64 nn (by omega) (by omega)
          have hsl := digits_slice ((k : Int)) (k) nn (by omega) hl hn1 D
          obtain ⟨f1, f2, f3⟩ := HS2.out.fin (by simp) nn
          rw [hnn] at f1 f2 f3
          simp only [size_set] at f1 f2 f3
          have HF := Lib.hid f3
          clear f3
          go_wp2
          go_ret
          rw [show strV (printL (sZ h l)) = .string ⟨(45 :: dig d :: L).toArray⟩ by
            have hz := sgn_iff hs
            unfold strV printL
            rw [if_pos (hz.1 (by omega)), ← HM.out, hm]]
          exact ⟨rfl, HF.out⟩
      · have hq1 : (q == 0) = false := by simpa using hq0
        go_wp2
        refine ⟨⟨m / 10, k + 1, 0, q, dig d :: L, rfl, rfl, by rw [Int.natCast_succ], by omega, by omega, HE.out.2.2.1, HE.out.2.2.2.1, Lib.hid (by have := HE.out; omega), Lib.hid ?_, HS⟩, ?_⟩
        · rw [decN_big (m := m) (by have := HE.out; omega), HE.out.2.1] at HP'; rw [HP', List.append_assoc]; rfl
        · have := HE.out; have := HX.out; simp only [intOf]; omega
    · have hx5 : (x' == 0) = false := by simpa using hx0
      go_wp2
      refine ⟨⟨m / 10, k + 1, x', q, dig d :: L, rfl, rfl, by rw [Int.natCast_succ], HE.out.2.2.2.2.1, HE.out.2.2.2.2.2, HE.out.2.2.1, HE.out.2.2.2.1, Lib.hid HE.out.1, Lib.hid ?_, HS⟩, ?_⟩
      · rw [decN_big (m := m) (by have := HE.out; omega), HE.out.2.1] at HP'; rw [HP', List.append_assoc]; rfl
      · have := HE.out; have := HX.out; simp only [intOf]; omega
end Go.Proofs.Ythlfbakndbjhoaa
