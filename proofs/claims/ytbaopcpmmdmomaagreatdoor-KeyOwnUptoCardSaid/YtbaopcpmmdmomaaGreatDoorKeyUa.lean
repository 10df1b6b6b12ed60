/- key.Unescape, the document's Unescape; errors with a place. -/
import Derived.Test.YtbaopcpmmdmomaaGreatDoorKeyY
import Derived.Test.YtbaopcpmmdmomaaGreatDoorAsA
import Derived.Laws.Concat
set_option linter.unusedSimpArgs false
set_option linter.unusedVariables false
namespace Go.Proofs.YtbaopcpmmdmomaaGreatDoor
open Go.RowKit
theorem at_any (p c : Int) (w : World) (hc : 1 ≤ c) : Calls Tryz.prog 60 #[.int .i64 p, .int .i64 c] w fun e w' => e = .returned (atV p c) ∧ w = w' := by
  have h : (c == 0) = false := by simp; omega
  go_enter Tryz.func60, Tryz.ntmps60
  go_wp2
  go_ret
  exact ⟨rfl, rfl⟩
/-- what key.Unescape returns -/
def unV : Bool × Nat × List UInt8 → Value
  | (true, i, o) => .tuple #[strV o, .int .i64 i, .nilIface]
  | (false, i, _) => .tuple #[strV [], .int .i64 0, atV i 53]
/-- what the document's Unescape returns -/
def runV : Bool × Nat × List UInt8 → Value
  | (true, i, o) => .tuple #[strV o, .int .i64 i, badV 0]
  | (false, i, _) => .tuple #[strV [], .int .i64 0, badAt i 53]
theorem results_ttt {fn : Func} {u v x : Tmp} (h : fn.results = #[.tmp u, .tmp v, .tmp x]) (tmps : Array Value) (w : World) (a b c : Value) (hu : tmps[u]?.getD undef = a) (hv : tmps[v]?.getD undef = b) (hx : tmps[x]?.getD undef = c) :
    (results fn tmps).run Tryz.prog w = .ok (.tuple #[a, b, c]) w := by
  simp [results, h, go_sem, hu, hv, hx]
theorem byte_92 (a : UInt8) : (((a.toNat : Int) == 92) : Bool) = (a == 92) := beq_byte a 92 (by decide)
set_option maxHeartbeats 4000000 in
set_option maxRecDepth 100000 in
theorem unescape_any (l : List UInt8) (w : World) (hl : l.length + 1 ≤ 140737488355328) :
    Calls Tryz.prog 58 #[strV l] w fun e w' => e = .returned (unV (unL l)) ∧ Below w.heap.size w w' := by
  have HB0 : Bx _ := ⟨Bld.new w⟩
  obtain ⟨Z, hZ⟩ : ∃ Z, unL l = Z := ⟨_, rfl⟩
  have HZ : Bx (unR l l.length 0 [] = Z) := ⟨hZ⟩
  rw [hZ]
  clear hZ
  go_enter Tryz.func58, Tryz.ntmps58
  go_wp2_with fail
  generalize hw1 : (w.alloc (.cells #[.pointer none, .slice none 0 0] 101)) = w1 at *
  have HW1 : Bx (Below w.heap.size w w1) := ⟨by rw [← hw1]; exact below1 _ _⟩
  generalize hS : w.heap.size = S at *
  have HS : Bx (w.heap.size = S) := ⟨hS⟩
  clear hS hw1
  go_loopw [6] (fun i wr => ∃ (k f : Nat) (o : List UInt8), k ≤ l.length ∧ i = .int .i64 k ∧ Bx (l.length ≤ k + f ∧ unR l f k o = Z ∧ o.length ≤ k) ∧ Bx (Bld S S o wr ∧ Below S w wr ∧ S ≤ wr.heap.size)) (fun i _ => l.length - (intOf i).toNat)
  case atStart => exact ⟨0, l.length, [], by omega, rfl, ⟨by omega, HZ.out, by simp⟩, ⟨HB0.out, HW1.out, by rw [← HS.out]; exact HW1.out.size⟩⟩
  case round =>
    obtain ⟨k, f, o, hk, rfl, HU, HI⟩ := hrel
    clear HB0 HW1 HZ
    by_cases hlt : k < l.length
    · obtain ⟨a, ha⟩ : ∃ a, l.getD k 0 = a := ⟨_, rfl⟩
      have hak : ((⟨l.toArray⟩ : ByteArray)[k]'(by simpa [ByteArray.size] using hlt)) = a := by rw [getD_toArray' hlt, ha]
      have h92 := byte_92 a
      have HA : Bx (l.getD k 0 = a) := ⟨ha⟩
      have hko := HU.out.2.2
      clear ha
      by_cases ha92 : a = 92
      · have hb92 : (a == 92) = true := by simpa using ha92
        obtain ⟨f', hf', hlf, hun⟩ := unR_step (o := o) HU.out.1 hlt (Or.inl (HA.out.trans ha92))
        rw [HU.out.2.1, HA.out, if_pos ha92] at hun
        by_cases hlt2 : k + 1 < l.length
        · obtain ⟨b, hb⟩ : ∃ b, l.getD (k + 1) 0 = b := ⟨_, rfl⟩
          have hbk : ((⟨l.toArray⟩ : ByteArray)[k + 1]'(by simpa [ByteArray.size] using hlt2)) = b := by rw [getD_toArray' hlt2, hb]
          rw [hb] at hun
          have ks := fun w => special_any b w
          have k2 := fun w h => writeByte S S o b w h (by omega)
          have HUN : Bx _ := ⟨hun⟩
          have hne : ((k : Int) + 1 == (l.length : Int)) = false := by simp; omega
          have HF : Bx (l.length ≤ k + 2 + f') := ⟨by omega⟩
          clear hun hb hlf hf' ha92
          generalize hsp : specB b = sp at *
          have HSP : Bx _ := ⟨hsp⟩
          clear hsp
          cases sp
          · have HUN2 : Bx (Z = (false, k, o)) := ⟨by rw [HUN.out, if_neg (by simp)]⟩
            clear HUN k2 HF
            go_wp2_with (first | (go_at_call 64; refine (ks _).mono ?_; rintro e w2 ⟨rfl, rfl⟩) | (go_at_call 60; refine (at_any _ 53 _ (by decide)).mono ?_; rintro e w3 ⟨rfl, rfl⟩))
            exact bodyPost_ret (results_ttt rfl _ _ _ _ _ rfl rfl rfl) rfl ⟨by rw [HUN2.out]; rfl, by rw [HS.out]; exact HI.out.2.1⟩
          · have HUN2 : Bx (unR l f' (k + 2) (o ++ [b]) = Z) := ⟨by rw [HUN.out, if_pos ⟨hlt2, rfl⟩]⟩
            have HL2 : Bx (k + 1 < l.length) := ⟨hlt2⟩
            clear HUN
            go_wp2_with (go_at_call 64; refine (ks _).mono ?_; rintro e w2 ⟨rfl, rfl⟩)
            refine (k2 _ HI.out.1 HI.out.2.2).mono ?_
            rintro e w3 ⟨rfl, h3, hb3⟩
            have HJ : Bx (Bld S S (o ++ [b]) w3 ∧ Below S w w3 ∧ S ≤ w3.heap.size) := ⟨h3, HI.out.2.1.trans hb3, Nat.le_trans HI.out.2.2 hb3.size⟩
            clear h3 hb3 HI k2 ks hak hbk
            go_wp2
            exact ⟨⟨k + 2, f', o ++ [b], by omega, congrArg (Value.int .i64) (by omega), ⟨HF.out, HUN2.out, by simp; omega⟩, HJ⟩, by simp only [intOf]; omega⟩
        · have HUN : Bx (Z = (false, k, o)) := ⟨by rw [hun, if_neg (by omega)]⟩
          have hne : ((k : Int) + 1 == (l.length : Int)) = true := by simp; omega
          clear hun hlf hf' ha92
          go_wp2_with (go_at_call 60; refine (at_any _ 53 _ (by decide)).mono ?_; rintro e w3 ⟨rfl, rfl⟩)
          exact bodyPost_ret (results_ttt rfl _ _ _ _ _ rfl rfl rfl) rfl ⟨by rw [HUN.out]; rfl, by rw [HS.out]; exact HI.out.2.1⟩
      · have hb92 : (a == 92) = false := by simpa using ha92
        have ks := fun w => special_any a w
        have k2 := fun w h => writeByte S S o a w h (by omega)
        by_cases hsp : specB a = true
        · have HUN : Bx (Z = (true, k, o)) := ⟨by
            rw [← HU.out.2.1, unR_stop]
            rintro ⟨_, h | h⟩
            · rw [HA.out] at h; exact ha92 h
            · rw [HA.out, hsp] at h; cases h⟩
          rw [hsp] at ks
          have kst := fun w h hb => Tryz.Builder_String_any S S o w h hb
          clear ha92 hsp k2
          go_wp2_with (go_at_call 64; refine (ks _).mono ?_; rintro e w2 ⟨rfl, rfl⟩)
          refine (kst _ HI.out.1 HI.out.2.2).mono ?_
          rintro e w3 ⟨rfl, h3⟩
          have HF : Bx (Below S w w3) := ⟨HI.out.2.1.trans h3⟩
          clear h3 kst HI
          go_wp2
          exact bodyPost_ret (results_ttt rfl _ _ _ _ _ rfl rfl rfl) rfl ⟨by rw [HUN.out]; rfl, by rw [HS.out]; exact HF.out⟩
        · have hsp' : specB a = false := by simpa using hsp
          obtain ⟨f', hf', hlf, hun⟩ := unR_step (o := o) HU.out.1 hlt (Or.inr (by rw [HA.out]; exact hsp'))
          rw [HU.out.2.1, HA.out, if_neg ha92] at hun
          have HUN : Bx (unR l f' (k + 1) (o ++ [a]) = Z ∧ l.length ≤ k + 1 + f') := ⟨hun.symm, hlf⟩
          rw [hsp'] at ks
          clear ha92 hsp hsp' hun hlf hf'
          go_wp2_with (go_at_call 64; refine (ks _).mono ?_; rintro e w2 ⟨rfl, rfl⟩)
          refine (k2 _ HI.out.1 HI.out.2.2).mono ?_
          rintro e w3 ⟨rfl, h3, hb3⟩
          have HJ : Bx (Bld S S (o ++ [a]) w3 ∧ Below S w w3 ∧ S ≤ w3.heap.size) := ⟨h3, HI.out.2.1.trans hb3, Nat.le_trans HI.out.2.2 hb3.size⟩
          clear h3 hb3 HI k2 ks hak
          go_wp2
          exact ⟨⟨k + 1, f', o ++ [a], by omega, congrArg (Value.int .i64) (by omega), ⟨HUN.out.2, HUN.out.1, by simp; omega⟩, HJ⟩, by simp only [intOf]; omega⟩
    · obtain rfl : k = l.length := by omega
      have HUN : Bx (Z = (true, l.length, o)) := ⟨by rw [← HU.out.2.1, unR_stop (by omega)]⟩
      have kst := fun w h hb => Tryz.Builder_String_any S S o w h hb
      go_wp2_with fail
      refine (kst _ HI.out.1 HI.out.2.2).mono ?_
      rintro e w3 ⟨rfl, h3⟩
      have HF : Bx (Below S w w3) := ⟨HI.out.2.1.trans h3⟩
      clear h3 kst HI
      go_wp2
      exact bodyPost_ret (results_ttt rfl _ _ _ _ _ rfl rfl rfl) rfl ⟨by rw [HUN.out]; rfl, by rw [HS.out]; exact HF.out⟩
theorem BB.put {w0 w : World} {R : Nat} (g : BB w0 w R) (x0 x1 x2 x3 x4 : Value) :
    (((((w.setCell ⟨R, 0, none⟩ x0).setCell ⟨R, 1, none⟩ x1).setCell ⟨R, 2, none⟩ x2).setCell ⟨R, 3, none⟩ x3).setCell ⟨R, 4, none⟩ x4).cell? ⟨R, 0, none⟩ = some x0 ∧
    (((((w.setCell ⟨R, 0, none⟩ x0).setCell ⟨R, 1, none⟩ x1).setCell ⟨R, 2, none⟩ x2).setCell ⟨R, 3, none⟩ x3).setCell ⟨R, 4, none⟩ x4).cell? ⟨R, 1, none⟩ = some x1 ∧
    (((((w.setCell ⟨R, 0, none⟩ x0).setCell ⟨R, 1, none⟩ x1).setCell ⟨R, 2, none⟩ x2).setCell ⟨R, 3, none⟩ x3).setCell ⟨R, 4, none⟩ x4).cell? ⟨R, 2, none⟩ = some x2 ∧
    (((((w.setCell ⟨R, 0, none⟩ x0).setCell ⟨R, 1, none⟩ x1).setCell ⟨R, 2, none⟩ x2).setCell ⟨R, 3, none⟩ x3).setCell ⟨R, 4, none⟩ x4).cell? ⟨R, 3, none⟩ = some x3 ∧
    (((((w.setCell ⟨R, 0, none⟩ x0).setCell ⟨R, 1, none⟩ x1).setCell ⟨R, 2, none⟩ x2).setCell ⟨R, 3, none⟩ x3).setCell ⟨R, 4, none⟩ x4).cell? ⟨R, 4, none⟩ = some x4 ∧
    Below R w0 (((((w.setCell ⟨R, 0, none⟩ x0).setCell ⟨R, 1, none⟩ x1).setCell ⟨R, 2, none⟩ x2).setCell ⟨R, 3, none⟩ x3).setCell ⟨R, 4, none⟩ x4) := by
  have hR : R ≤ R := Nat.le_refl _
  refine ⟨?_, ?_, ?_, ?_, ?_, ?_⟩
  · repeat refine cell_set_ne ?_ (by omega)
    exact cell_set_eq g.c0
  · repeat refine cell_set_ne ?_ (by omega)
    exact cell_set_eq (cell_set_ne g.c1 (by omega))
  · refine cell_set_ne (cell_set_ne (cell_set_eq (v := .int .i64 0) ?_) (by omega)) (by omega)
    repeat refine cell_set_ne ?_ (by omega)
    exact g.c2
  · refine cell_set_ne (cell_set_eq (v := .bool false) ?_) (by omega)
    repeat refine cell_set_ne ?_ (by omega)
    exact g.c3
  · refine cell_set_eq (v := .bool false) ?_
    repeat refine cell_set_ne ?_ (by omega)
    exact g.c4
  · exact ((((g.below.setCell (p := ⟨R, 0, none⟩) hR _).setCell (p := ⟨R, 1, none⟩) hR _).setCell (p := ⟨R, 2, none⟩) hR _).setCell (p := ⟨R, 3, none⟩) hR _).setCell (p := ⟨R, 4, none⟩) hR _
end Go.Proofs.YtbaopcpmmdmomaaGreatDoor
