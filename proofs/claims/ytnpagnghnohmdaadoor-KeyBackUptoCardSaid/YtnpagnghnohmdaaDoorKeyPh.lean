/- The walk of the statement KeyParses. -/
import Derived.Test.YtnpagnghnohmdaaDoorKeyPg
set_option linter.unusedSimpArgs false
set_option linter.unusedVariables false
namespace Go.Proofs.YtnpagnghnohmdaaDoor
open Go.RowKit
/-- what is wrong with a key: a place, or else a number (0: nothing) -/
def kindF (l : List UInt8) : Option Nat × Int :=
  ((parF l).1, match (parF l).1 with | some _ => 0 | none => seriesC (parF l).2.1 (parF l).2.2.2 (parF l).2.2.1.length (fun i => ((parF l).2.2.1.getD i ([], [])).1) (fun i => ((parF l).2.2.1.getD i ([], [])).2))
/-- the series that is told -/
def serF (l : List UInt8) : List UInt8 × List (List UInt8 × List UInt8) × List UInt8 := if kindF l = (none, 0) then (parF l).2 else ([], [], [])
def keyE : Option Nat × Int → Value
  | (some p, _) => atV p 53
  | (none, c) => eV c
def refE : Option Nat × Int → Value
  | (some p, _) => badAt p 53
  | (none, c) => badV c
/-- what both tell -/
def ParV (l : List UInt8) (E : Value) (ev : Ending) (w' : World) : Prop :=
  ∃ A cap, ev = .returned (.tuple #[.agg #[strV (serF l).1, .slice A (serF l).2.1.length cap, strV (serF l).2.2], E]) ∧ SerIn w' (serF l).1 (serF l).2.2 A (serF l).2.1.length (fun i => ((serF l).2.1.getD i ([], [])).1) (fun i => ((serF l).2.1.getD i ([], [])).2)
theorem serIn_nil (w : World) : SerIn w [] [] none 0 (fun i => (([] : List (List UInt8 × List UInt8)).getD i ([], [])).1) (fun i => (([] : List (List UInt8 × List UInt8)).getD i ([], [])).2) :=
  ⟨⟨fun h => absurd h (by omega), fun i hi => absurd hi (by omega)⟩, by simp, by simp, by omega⟩
theorem parV_of {l : List UInt8} {badP : Nat → Value} {badC : Int → Value} {good : Value} {E : Option Nat × Int → Value} {ev : Ending} {w' : World} (h : ParK l badP badC good ev w') (h1 : ∀ p c, E (some p, c) = badP p) (h2 : ∀ c, 1 ≤ c → E (none, c) = badC c) (h3 : E (none, 0) = good) : ParV l (E (kindF l)) ev w' := by
  rcases h with ⟨p, hp, rfl⟩ | ⟨c, hc, hp, hs, rfl⟩ | ⟨hp, hs, A, cap, rfl, hser⟩
  · have hk : kindF l = (some p, 0) := by unfold kindF; rw [hp]
    have hse : serF l = ([], [], []) := by unfold serF; rw [if_neg (by rw [hk]; simp)]
    unfold ParV
    rw [hse, hk, h1]
    exact ⟨none, 0, rfl, serIn_nil w'⟩
  · have hk : kindF l = (none, c) := by unfold kindF; rw [hp]; simp only; rw [hs]
    have hse : serF l = ([], [], []) := by unfold serF; rw [if_neg (by rw [hk]; simp; omega)]
    unfold ParV
    rw [hse, hk, h2 c hc]
    exact ⟨none, 0, rfl, serIn_nil w'⟩
  · have hk : kindF l = (none, 0) := by unfold kindF; rw [hp]; simp only; rw [hs]
    have hse : serF l = (parF l).2 := by unfold serF; rw [if_pos hk]
    unfold ParV
    rw [hse, hk, h3]
    exact ⟨A, cap, rfl, hser⟩
theorem parse_to (l : List UInt8) (w : World) (hl : l.length ≤ 1048576) (hG : GlobK w) :
    Calls Tryd.prog 34 #[strV l] w fun ev w' => ParV l (keyE (kindF l)) ev w' ∧ Below w.heap.size w w' :=
  (parse_any l w hl hG).mono fun _ _ ⟨h, hb⟩ => ⟨parV_of h (fun _ _ => rfl) (fun c hc => eV_pos hc) rfl, hb⟩
theorem rparse_to (l : List UInt8) (w : World) (hl : l.length ≤ 1048576) :
    Calls Tryd.prog 35 #[strV l] w fun ev w' => ParV l (refE (kindF l)) ev w' ∧ Below w.heap.size w w' :=
  (rparse_any l w hl).mono fun _ _ ⟨h, hb⟩ => ⟨parV_of h (fun _ _ => rfl) (fun c hc => rfl) rfl, hb⟩
theorem kindF_pos (l : List UInt8) : 0 ≤ (kindF l).2 := by
  unfold kindF
  simp only
  split
  · exact Int.le_refl _
  · exact seriesC_pos _ _ _ _ _
theorem same_K (K : Option Nat × Int) (w : World) (hG : GlobK w) (hc : 0 ≤ K.2) : Calls Tryd.prog 17 #[keyE K, refE K] w fun e w' => e = .returned (.bool true) ∧ Below w.heap.size w w' := by
  obtain ⟨p, c⟩ := K
  cases p with
  | none => exact same_C c w hG hc
  | some p => exact same_A p 53 w hG.g (by decide)
theorem refE_parts (K : Option Nat × Int) : ∃ (a0 a1 a2 : Int) (b3 b4 : Bool), refE K = .agg #[.int .i64 a0, .int .i64 a1, .int .i64 a2, .bool b3, .bool b4] := by
  obtain ⟨p, c⟩ := K
  cases p with
  | none => exact ⟨_, _, _, _, _, rfl⟩
  | some p => exact ⟨_, _, _, _, _, rfl⟩
theorem cmpS_self (m f : List UInt8) (n : Nat) (tk tv : Nat → List UInt8) : cmpS m n tk tv f m n tk tv f = 0 := by
  have : cmpS m n tk tv f m n tk tv f = -cmpS m n tk tv f m n tk tv f := by
    conv => lhs; rw [cmpS_ser]
    conv => rhs; rw [cmpS_ser]
    exact cmpSer_good.anti _ _
  omega
set_option maxHeartbeats 4000000 in
set_option maxRecDepth 100000 in
theorem kparses_any (l : List UInt8) (w : World) (hl : l.length ≤ 1048576) (hG : GlobK w) :
    Calls Tryd.prog 9 #[strV l] w fun e w' => e = .returned (.bool true) ∧ Below w.heap.size w w' := by
  have HGK : Bx (GlobK w) := ⟨hG⟩
  have k1 := parse_to l w hl hG
  have k2 := fun w => rparse_to l w hl
  have kE := fun w hG => same_K (kindF l) w hG (kindF_pos l)
  obtain ⟨a0, a1, a2, b3, b4, hE⟩ := refE_parts (kindF l)
  rw [hE] at k2 kE
  unfold ParV at k1 k2
  generalize keyE (kindF l) = E at *
  generalize (serF l).1 = m at *
  generalize (serF l).2.2 = f at *
  generalize (serF l).2.1 = ts at *
  clear hE hG
  go_enter Tryd.func9, Tryd.ntmps9
  go_wp2_with fail
  refine k1.mono ?_
  rintro ev w1 ⟨⟨A1, c1, rfl, hs1⟩, h1⟩
  go_wp2_with fail
  refine (k2 _).mono ?_
  rintro ev w2 ⟨⟨A2, c2, rfl, hs2⟩, h2⟩
  have ca1 := CA.alloc w1 [strV m, .slice A1 ts.length c1, strV f] 24
  have hb12 : Below w1.heap.size w1 w2 := (below1 w1 _).trans (h2.mono (by simp))
  have ca1' : CA w2 w1.heap.size [strV m, .slice A1 ts.length c1, strV f] := ca1.grown (grown_below h2 none) (by simp)
  have hw1 : w1.heap.size < w2.heap.size := by have := h2.size; simp only [heap_push, Array.size_push] at this; omega
  have hb3 := below2 w2 (.cells #[strV m, .slice A2 ts.length c2, strV f] 24) (.cells #[.int .i64 a0, .int .i64 a1, .int .i64 a2, .bool b3, .bool b4] 35)
  have ca2 : CA ((w2.alloc (.cells #[strV m, .slice A2 ts.length c2, strV f] 24)).alloc (.cells #[.int .i64 a0, .int .i64 a1, .int .i64 a2, .bool b3, .bool b4] 35)) w2.heap.size [strV m, .slice A2 ts.length c2, strV f] :=
    (CA.alloc w2 [strV m, .slice A2 ts.length c2, strV f] _).grown (row := none) (grown_alloc (grown_refl _ _) _) (by simp)
  have ca3 : CA ((w2.alloc (.cells #[strV m, .slice A2 ts.length c2, strV f] 24)).alloc (.cells #[.int .i64 a0, .int .i64 a1, .int .i64 a2, .bool b3, .bool b4] 35)) (w2.heap.size + 1) [.int .i64 a0, .int .i64 a1, .int .i64 a2, .bool b3, .bool b4] := by
    have := CA.alloc (w2.alloc (.cells #[strV m, .slice A2 ts.length c2, strV f] 24)) [.int .i64 a0, .int .i64 a1, .int .i64 a2, .bool b3, .bool b4] 35
    rwa [show (w2.alloc (.cells #[strV m, .slice A2 ts.length c2, strV f] 24)).heap.size = w2.heap.size + 1 by simp] at this
  have ca1'' := ca1'.grown (grown_below hb3 none) (by simp)
  have hB3 : Below w.heap.size w ((w2.alloc (.cells #[strV m, .slice A2 ts.length c2, strV f] 24)).alloc (.cells #[.int .i64 a0, .int .i64 a1, .int .i64 a2, .bool b3, .bool b4] 35)) :=
    (h1.trans (hb12.mono h1.size)).trans (hb3.mono (by have := h1.size; omega))
  have hs1' := (hs1.below hb12).below hb3
  have hs2' := hs2.below hb3
  clear ca1 ca1' hb12 hb3 h2 hs1 hs2 k1 k2
  go_wp2_with fail
  change Calls _ _ _ ((w2.alloc (.cells #[strV m, .slice A2 ts.length c2, strV f] 24)).alloc (.cells #[.int .i64 a0, .int .i64 a1, .int .i64 a2, .bool b3, .bool b4] 35)) _
  generalize (w2.alloc (.cells #[strV m, .slice A2 ts.length c2, strV f] 24)).alloc (.cells #[.int .i64 a0, .int .i64 a1, .int .i64 a2, .bool b3, .bool b4] 35) = w3 at *
  generalize w1.heap.size = R1 at *
  generalize w2.heap.size = R2 at *
  refine (live_any _ (HGK.out.below hB3)).mono ?_
  rintro ev w4 ⟨rfl, h4⟩
  have ca1 := ca1''.grown (grown_below h4 none) (by simp)
  have cb := ca2.grown (grown_below h4 none) (by simp)
  have cc := ca3.grown (grown_below h4 none) (by simp)
  have hB4 := hB3.trans (h4.mono hB3.size)
  have hs1 := hs1'.below h4
  have hs2 := hs2'.below h4
  clear ca1'' ca2 ca3 hB3 hs1' hs2' h4
  have x0 := ca1 0 _ rfl
  have x1 := ca1 1 _ rfl
  have x2 := ca1 2 _ rfl
  have y0 := cb 0 _ rfl
  have y1 := cb 1 _ rfl
  have y2 := cb 2 _ rfl
  have ks := rsame_any m f A1 ts.length c1 _ _ m f A2 ts.length c2 _ _ w4 hs1 hs2
  rw [cmpS_self] at ks
  have HCC : Bx _ := ⟨cc⟩
  have HB4 : Bx _ := ⟨hB4⟩
  clear ca1 cb cc hB4 hs1 hs2
  go_wp2_with fail
  refine ks.mono ?_
  rintro ev w5 ⟨rfl, h5⟩
  have cc := HCC.out.grown (grown_below h5 none) (by simp)
  have HB5 : Bx _ := ⟨HB4.out.trans (h5.mono HB4.out.size)⟩
  have z0 := cc 0 _ rfl
  have z1 := cc 1 _ rfl
  have z2 := cc 2 _ rfl
  have z3 := cc 3 _ rfl
  have z4 := cc 4 _ rfl
  clear x0 x1 x2 y0 y1 y2 ks cc HCC HB4 h5
  go_wp2_with fail
  refine (kE _ (HGK.out.below HB5.out)).mono ?_
  rintro ev w6 ⟨rfl, h6⟩
  have HF : Bx (Below w.heap.size w w6) := ⟨HB5.out.trans (h6.mono HB5.out.size)⟩
  clear z0 z1 z2 z3 z4 h6 HB5 kE
  go_wp2
  go_ret
  exact ⟨rfl, HF.out⟩
end Go.Proofs.YtnpagnghnohmdaaDoor
