/- The reference's Print. -/
import Derived.Test.YthlfbakndbjhoaaDoorNumPl
import Derived.Test.YthlfbakndbjhoaaDoorNumRs
import Derived.Lib.SmallJoins
set_option linter.unusedSimpArgs false
set_option linter.unusedVariables false
namespace Go.Proofs.YthlfbakndbjhoaaDoor
open Go.RowKit
theorem sgn_iff {h l : Int} (hs : SumW h l) : h < 0 ↔ sZ h l < 0 := by
  obtain ⟨h0, h1, l0, l1⟩ := hs
  unfold sZ; omega
theorem dig_toNat {d : Nat} (h : d < 10) : (dig d).toNat = 48 + d := by
  unfold dig; rw [UInt8.toNat_ofNat']; omega
/-- a digit's byte, as a text -/
theorem dig_cell (w : World) (d : Nat) (hd : d < 10) (S : Nat) (hS : S = w.heap.size) :
    (convert 90 9 (.slice (some ⟨S, 0, none⟩) 1 1)).run Tryd.prog (w.alloc (.cells #[.int .u8 (48 + (d : Int))] 5)) = .ok (.string ⟨[dig d].toArray⟩) (w.alloc (.cells #[.int .u8 (48 + (d : Int))] 5)) := by
  subst hS
  refine run_convert_bytes_back (P := Tryd.prog) (w.alloc (.cells #[.int .u8 (48 + (d : Int))] 5)) 90 9 5 ⟨w.heap.size, 0, none⟩ 1 [dig d] Tryd.underlying90 Tryd.underlying5 Tryd.underlying9 ?_
  intro j hj
  obtain rfl : j = 0 := by simpa using hj
  show (w.alloc _).cell? ⟨w.heap.size, 0, none⟩ = _
  rw [World.cell?_alloc_at _ _ _ _ rfl]
  simp [dig_toNat hd]
/-- is a text empty? (1 if it is) -/
def emptyS : Value → Nat
  | .string s => if s.size = 0 then 1 else 0
  | _ => 0
/-- how far the printing of M has come: L is written, m is left -/
def Printed (M m : Nat) (L : List UInt8) : Prop := L.length ≤ 40 ∧ (L = [] ∧ m = M ∨ L ≠ [] ∧ 0 < m ∧ decN M = decN m ++ L ∨ L ≠ [] ∧ m = 0 ∧ decN M = L)
theorem Printed.step {M m : Nat} {L : List UInt8} (hM : (decN M).length ≤ 39) (h : Printed M m L) (hc : L = [] ∨ 0 < m) : Printed M (m / 10) (dig (m % 10) :: L) := by
  have key : decN M = decN m ++ L → Printed M (m / 10) (dig (m % 10) :: L) := fun e => by
    by_cases hm : m < 10
    · rw [decN_small hm] at e
      have e2 : m % 10 = m := Nat.mod_eq_of_lt hm
      rw [e2]
      refine ⟨?_, .inr (.inr ⟨by simp, by omega, by rw [e]; rfl⟩)⟩
      rw [e] at hM; simp at hM ⊢; omega
    · rw [decN_big hm, List.append_assoc] at e
      refine ⟨?_, .inr (.inl ⟨by simp, by omega, by rw [e]; rfl⟩)⟩
      rw [e] at hM; simp at hM ⊢; omega
  rcases h.2 with ⟨rfl, rfl⟩ | ⟨h1, h2, h3⟩ | ⟨h1, h2, h3⟩
  · exact key (by simp)
  · exact key h3
  · rcases hc with hc | hc
    · exact absurd hc h1
    · omega
theorem Printed.done {M : Nat} {L : List UInt8} (h : Printed M 0 L) (hL : L ≠ []) : decN M = L := by
  rcases h.2 with ⟨h1, _⟩ | ⟨_, h2, _⟩ | ⟨_, _, h3⟩
  · exact absurd h1 hL
  · omega
  · exact h3
/-- the world beside it: the sum's box -/
structure PrW (w0 w : World) (S : Nat) (h : Int) : Prop where
  below : Below S w0 w
  lt : S < w.heap.size
  c0 : w.cell? ⟨S, 0, none⟩ = some (.int .i64 h)
theorem PrW.step {w0 w w' : World} {S : Nat} {h : Int} (g : PrW w0 w S h) (hb : Below w.heap.size w w') : PrW w0 w' S h where
  below := ⟨hb.os.trans g.below.os, hb.tape.trans g.below.tape, hb.output.trans g.below.output, Nat.le_trans g.below.size hb.size, fun k hk => (hb.block k (Nat.lt_trans hk g.lt)).trans (g.below.block k hk)⟩
  lt := Nat.lt_of_lt_of_le g.lt hb.size
  c0 := by rw [hb.cell (p := ⟨S, 0, none⟩) g.lt]; exact g.c0
set_option maxHeartbeats 4000000 in
set_option maxRecDepth 100000 in
theorem rprint_any (h l : Int) (w : World) (hs : SumW h l) :
    Calls Tryd.prog 42 #[.agg #[.int .i64 h, .int .u64 l]] w fun e w' => e = .returned (strV (printL (sZ h l))) ∧ Below w.heap.size w w' := by
  have hsz := fun w => rsize_any h l w hs
  obtain ⟨a0, a1, b0, b1, hv⟩ := abs_val h l hs
  generalize absHi h l = ah at *
  generalize absLo h l = al at *
  have HV := Lib.hid hv
  clear hv
  go_enter Tryd.func42, Tryd.ntmps42
  go_wp2_with fail
  refine (hsz _).mono ?_; rintro e w1 ⟨rfl, h1⟩
  have H1 : Below w.heap.size w w1 := (below1 _ _).trans (h1.mono (by simp))
  have c0 : w1.cell? ⟨w.heap.size, 0, none⟩ = some (.int .i64 h) := by
    rw [h1.cell (p := ⟨w.heap.size, 0, none⟩) (by simp)]
    rw [World.cell?_alloc_at _ _ _ _ rfl]; rfl
  have hS : w.heap.size < w1.heap.size := Nat.lt_of_lt_of_le (by simp) h1.size
  clear h1
  generalize hSz : w.heap.size = S at *
  have HSz := Lib.hid hSz
  clear hSz
  go_wp2_with fail
  have HW : Hid (PrW w w1 S h) := Lib.hid ⟨H1, hS, c0⟩
  clear H1 c0 hS hsz
  obtain ⟨M, hM, hMv⟩ : ∃ M : Nat, (M : Int) = ah * 18446744073709551616 + al ∧ M = (sZ h l).natAbs := ⟨(sZ h l).natAbs, by have := sgn_iff hs; rw [HV.out]; split <;> omega, rfl⟩
  have HM := Lib.hid hMv
  have HM2 := Lib.hid hM
  clear hMv HV
  go_loopw [3, 4, 5] (fun hi lo out wr => ∃ (m : Nat) (x y : Int) (L : List UInt8), hi = .int .u64 x ∧ lo = .int .u64 y ∧ out = strV L ∧ 0 ≤ x ∧ x ≤ 18446744073709551615 ∧ 0 ≤ y ∧ y ≤ 18446744073709551615 ∧ Hid ((m : Int) = x * 18446744073709551616 + y) ∧ Hid (Printed M m L) ∧ Hid (PrW w wr S h)) (fun hi lo out _ => (intOf hi * 18446744073709551616 + intOf lo).toNat + emptyS out)
  case atStart => exact ⟨M, ah, al, [], rfl, rfl, rfl, a0, by omega, b0, b1, HM2, Lib.hid ⟨by simp, .inl ⟨rfl, rfl⟩⟩, HW⟩
  case round =>
    obtain ⟨m, x, y, L, rfl, rfl, rfl, x0, x1, y0, y1, HX, HP, HI⟩ := hrel
    clear HW
    have p1 := fun w => divided_any x y 10 w x0 x1 y0 y1 (by omega) (by omega)
    unfold strV
    obtain ⟨qh, hqh⟩ : ∃ q, q = (x * 18446744073709551616 + y) / 10 / 18446744073709551616 := ⟨_, rfl⟩
    obtain ⟨ql, hql⟩ : ∃ q, q = (x * 18446744073709551616 + y) / 10 % 18446744073709551616 := ⟨_, rfl⟩
    obtain ⟨d, hd, hd10⟩ : ∃ d : Nat, (d : Int) = (x * 18446744073709551616 + y) % 10 ∧ d < 10 := ⟨((x * 18446744073709551616 + y) % 10).toNat, by omega, by omega⟩
    rw [← hqh, ← hql, ← hd] at p1
    have HQH := Lib.hid hqh
    have HQL := Lib.hid hql
    have HD := Lib.hid hd
    clear hqh hql hd
    have hL := HP.out.1
    have hb : 0 ≤ qh ∧ qh ≤ 18446744073709551615 ∧ 0 ≤ ql ∧ ql ≤ 18446744073709551615 := by rw [HQH.out, HQL.out]; omega
    have hM39 : (decN M).length ≤ 39 := decN_len 38 M (by
      have : (10 : Nat) ^ (38 + 1) = 1000000000000000000000000000000000000000 := by decide
      omega)
    by_cases hx : 0 < x
    · go_wp2_with fail
      refine (p1 _).mono ?_; rintro e w2 ⟨rfl, h2⟩
      have HJ : Hid (PrW w w2 S h) := Lib.hid (HI.out.step h2)
      have hcv := dig_cell w2 d hd10 _ rfl
      have hadd := fun w => run_string_add_lists (P := Tryd.prog) w [dig d] L (by simp) (by omega)
      clear HI h2 p1
      go_wp2
      refine ⟨⟨m / 10, qh, ql, dig d :: L, rfl, rfl, rfl, hb.1, hb.2.1, hb.2.2.1, hb.2.2.2, Lib.hid ?_, ?_, Lib.hid (HJ.out.step (below1 _ _))⟩, ?_⟩
      · have := HX.out; rw [HQH.out, HQL.out]; omega
      · have e : d = m % 10 := by have := HX.out; have := HD.out; omega
        rw [e]
        exact Lib.hid (HP.out.step hM39 (.inr (by have := HX.out; omega)))
      · simp only [intOf, emptyS, ByteArray.size, List.size_toArray, List.length_cons, Nat.succ_ne_zero, if_false]; rw [HQH.out, HQL.out]; omega
    · by_cases hy : 0 < y
      · go_wp2_with fail
        refine (p1 _).mono ?_; rintro e w2 ⟨rfl, h2⟩
        have HJ : Hid (PrW w w2 S h) := Lib.hid (HI.out.step h2)
        have hcv := dig_cell w2 d hd10 _ rfl
        have hadd := fun w => run_string_add_lists (P := Tryd.prog) w [dig d] L (by simp) (by omega)
        clear HI h2 p1
        go_wp2
        refine ⟨⟨m / 10, qh, ql, dig d :: L, rfl, rfl, rfl, hb.1, hb.2.1, hb.2.2.1, hb.2.2.2, Lib.hid ?_, ?_, Lib.hid (HJ.out.step (below1 _ _))⟩, ?_⟩
        · have := HX.out; rw [HQH.out, HQL.out]; omega
        · have e : d = m % 10 := by have := HX.out; have := HD.out; omega
          rw [e]
          exact Lib.hid (HP.out.step hM39 (.inr (by have := HX.out; omega)))
        · simp only [intOf, emptyS, ByteArray.size, List.size_toArray, List.length_cons, Nat.succ_ne_zero, if_false]; rw [HQH.out, HQL.out]; omega
      · obtain rfl : x = 0 := by omega
        obtain rfl : y = 0 := by omega
        obtain rfl : m = 0 := by have := HX.out; omega
        cases L with
        | nil =>
          go_wp2_with fail
          refine (p1 _).mono ?_; rintro e w2 ⟨rfl, h2⟩
          have HJ : Hid (PrW w w2 S h) := Lib.hid (HI.out.step h2)
          have hcv := dig_cell w2 d hd10 _ rfl
          have hadd := fun w => run_string_add_lists (P := Tryd.prog) w [dig d] [] (by simp) (by omega)
          clear HI h2 p1
          go_wp2
          refine ⟨⟨0 / 10, qh, ql, dig d :: [], rfl, rfl, rfl, hb.1, hb.2.1, hb.2.2.1, hb.2.2.2, Lib.hid ?_, ?_, Lib.hid (HJ.out.step (below1 _ _))⟩, ?_⟩
          · have := HX.out; rw [HQH.out, HQL.out]; omega
          · have e : d = 0 % 10 := by have := HX.out; have := HD.out; omega
            rw [e]
            exact Lib.hid (HP.out.step hM39 (.inl rfl))
          · simp only [intOf, emptyS, ByteArray.size, List.size_toArray, List.length_cons, List.length_nil, Nat.succ_ne_zero, if_false, if_true]; rw [HQH.out, HQL.out]; omega
        | cons c t =>
          have heM := HP.out.done (by simp)
          rw [HM.out] at heM
          have c0 := HI.out.c0
          have hsg := sgn_iff hs
          have HE : Hid (printL (sZ h l) = if h < 0 then 45 :: c :: t else c :: t) := Lib.hid (by
            unfold printL; rw [heM]
            by_cases hh : h < 0
            · rw [if_pos hh, if_pos (hsg.1 hh)]
            · rw [if_neg hh, if_neg (fun z => hh (hsg.2 z))])
          clear heM hsg p1 hs
          by_cases hh : h < 0
          · have hadd := fun w => run_string_add_lists (P := Tryd.prog) w [45] (c :: t) (by simp) (by omega)
            go_wp2
            go_ret
            rw [HE.out, if_pos hh]
            exact ⟨rfl, by rw [HSz.out]; exact HI.out.below⟩
          · go_wp2
            go_ret
            rw [HE.out, if_neg (by omega)]
            exact ⟨rfl, by rw [HSz.out]; exact HI.out.below⟩
end Go.Proofs.YthlfbakndbjhoaaDoor
