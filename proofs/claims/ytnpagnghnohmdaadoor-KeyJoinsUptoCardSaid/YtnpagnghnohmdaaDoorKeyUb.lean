/- The walks of the statements KeyEscapes, KeyUnescapes. -/
import Derived.Test.YtnpagnghnohmdaaDoorKeyUa
import Derived.Test.YtnpagnghnohmdaaDoorSameA
set_option linter.unusedSimpArgs false
set_option linter.unusedVariables false
namespace Go.Proofs.YtnpagnghnohmdaaDoor
open Go.RowKit
/-- a box of the call's own with these cells -/
structure VB (w0 w : World) (R : Nat) (xs : List Value) : Prop where
  below : Below R w0 w
  lt : R < w.heap.size
  c : ∀ (i : Nat) (v : Value), xs[i]? = some v → w.cell? ⟨R, i, none⟩ = some v
theorem VB.alloc {w0 w : World} (xs : List Value) (T : Nat) (hb : Below w.heap.size w0 w) : VB w0 (w.alloc (.cells xs.toArray T)) w.heap.size xs where
  below := hb.trans (below1 _ _)
  lt := by simp only [heap_push, Array.size_push]; omega
  c := fun i v h => by rw [World.cell?_alloc_at _ _ _ _ rfl]; simpa using h
theorem VB.step {w0 w w' : World} {R : Nat} {xs : List Value} (g : VB w0 w R xs) (hb : Below w.heap.size w w') : VB w0 w' R xs where
  below := g.below.trans (hb.mono (Nat.le_of_lt g.lt))
  lt := Nat.lt_of_lt_of_le g.lt hb.size
  c := fun i v h => by rw [hb.cell (p := ⟨R, i, none⟩) g.lt]; exact g.c i v h
/-- both sides of Unescape tell the same -/
theorem un_both (Z : Bool × Nat × List UInt8) : ∃ (T : List UInt8) (N : Int) (E : Value) (a0 a1 a2 : Int) (b3 b4 : Bool), unV Z = .tuple #[strV T, .int .i64 N, E] ∧ runV Z = .tuple #[strV T, .int .i64 N, .agg #[.int .i64 a0, .int .i64 a1, .int .i64 a2, .bool b3, .bool b4]] ∧
    ∀ w, Glob w → Calls Tryd.prog 17 #[E, .agg #[.int .i64 a0, .int .i64 a1, .int .i64 a2, .bool b3, .bool b4]] w fun e w' => e = .returned (.bool true) ∧ Below w.heap.size w w' := by
  obtain ⟨ok, i, o⟩ := Z
  cases ok
  · exact ⟨[], 0, atV i 53, 53, i, 0, true, false, rfl, rfl, fun w hG => same_A i 53 w hG (by decide)⟩
  · exact ⟨o, i, .nilIface, 0, 0, 0, false, false, rfl, rfl, fun w _ => same_nil w⟩
set_option maxHeartbeats 4000000 in
set_option maxRecDepth 100000 in
theorem escapes_any (l : List UInt8) (w : World) (hl : l.length ≤ 1048576) (hG : GlobK w) :
    Calls Tryd.prog 5 #[strV l] w fun e w' => e = .returned (.bool true) ∧ Below w.heap.size w w' := by
  have HGK : Bx (GlobK w) := ⟨hG⟩
  have k1 := fun w => unescape_any l w (by omega)
  have k2 := fun w => runescape_any l w (by omega)
  have k3 := fun w => escape_any l w (by omega)
  have k4 := fun w => rescape_any l w (by omega)
  obtain ⟨T, N, E, a0, a1, a2, b3, b4, e1, e2, ksm⟩ := un_both (unL l)
  rw [e1] at k1
  rw [e2] at k2
  generalize escL l = X at k3 k4
  clear hG e1 e2
  go_enter Tryd.func5, Tryd.ntmps5
  go_wp2_with fail
  refine (k1 _).mono ?_
  rintro e w1 ⟨rfl, h1⟩
  go_wp2_with fail
  refine (k2 _).mono ?_
  rintro e w2 ⟨rfl, h2⟩
  have HB2 : Bx (Below w.heap.size w w2) := ⟨h1.trans (h2.mono h1.size)⟩
  clear h1 h2 k1 k2
  go_wp2_with fail
  have HV0 := VB.alloc [.int .i64 a0, .int .i64 a1, .int .i64 a2, .bool b3, .bool b4] 35 (Below.refl w2.heap.size w2)
  change VB w2 (w2.alloc (.cells #[.int .i64 a0, .int .i64 a1, .int .i64 a2, .bool b3, .bool b4] 35)) _ _ at HV0
  generalize (w2.alloc (.cells #[.int .i64 a0, .int .i64 a1, .int .i64 a2, .bool b3, .bool b4] 35)) = w3 at *
  generalize hR : w2.heap.size = R at *
  have HR : Bx (w2.heap.size = R ∧ w.heap.size ≤ R) := ⟨hR, by rw [← hR]; exact HB2.out.size⟩
  clear hR
  have hbx : ∀ {x : World} {xs : List Value}, VB w2 x R xs → Below w.heap.size w x := fun h => HB2.out.trans (h.below.mono HR.out.2)
  refine (live_any _ (HGK.out.below (hbx HV0))).mono ?_
  rintro e w4 ⟨rfl, h4⟩
  have HV1 := HV0.step h4
  clear HV0 h4
  go_wp2_with fail
  refine (k3 _).mono ?_
  rintro e w5 ⟨rfl, h5⟩
  have HV2 := HV1.step h5
  clear HV1 h5
  go_wp2_with fail
  refine (k4 _).mono ?_
  rintro e w6 ⟨rfl, rfl⟩
  have c0 := HV2.c 0 _ rfl
  have c1 := HV2.c 1 _ rfl
  have c2 := HV2.c 2 _ rfl
  have c3 := HV2.c 3 _ rfl
  have c4 := HV2.c 4 _ rfl
  go_wp2_with fail
  refine (ksm _ (HGK.out.below (hbx HV2)).g).mono ?_
  rintro e w7 ⟨rfl, h7⟩
  have HV3 := HV2.step h7
  have HF : Bx (Below w.heap.size w w7) := ⟨hbx HV3⟩
  clear HV2 HV3 h7 c0 c1 c2 c3 c4 hbx ksm k3 k4
  go_wp2
  go_ret
  exact ⟨rfl, HF.out⟩
end Go.Proofs.YtnpagnghnohmdaaDoor
