/- The document's Parse: the walk. -/
import Derived.Test.YtnpagnghnohmdaaDoorKeyPf
import Derived.Deep.Cut
set_option linter.unusedSimpArgs false
set_option linter.unusedVariables false
namespace Go.Proofs.YtnpagnghnohmdaaDoor
open Go.RowKit
/-- the place that the document's piece hands back -/
def aN (z : List UInt8 × Nat × Option Nat) : Nat := match z.2.2 with | none => z.2.1 | some _ => 0
theorem aN_none {z : List UInt8 × Nat × Option Nat} (h : z.2.2 = none) : aN z = z.2.1 := by unfold aN; rw [h]
theorem aN_some {z : List UInt8 × Nat × Option Nat} {p : Nat} (h : z.2.2 = some p) : aN z = 0 := by unfold aN; rw [h]
theorem pcR_at {l : List UInt8} {k p : Nat} (h : (pcR l k none).2.2 = some p) : (pcR l k none).2.1 = k := by
  unfold pcR at h ⊢
  generalize unL (l.drop k) = Z at *
  obtain ⟨ok, n, o⟩ := Z
  cases ok
  · rfl
  · cases h
theorem bE_parts (e : Option Nat) : ∃ (a0 a1 a2 : Int) (b3 b4 : Bool), bE e = [.int .i64 a0, .int .i64 a1, .int .i64 a2, .bool b3, .bool b4] ∧ ((a0 == 0 : Bool) = e.isNone) ∧ ((a0 != 0 : Bool) = !e.isNone) := by
  cases e with
  | none => exact ⟨0, 0, 0, false, false, rfl, rfl, rfl⟩
  | some p => exact ⟨53, p, 0, true, false, rfl, rfl, rfl⟩
theorem rpiece_to (l : List UInt8) (k : Nat) (w : World) (A : List UInt8 × Nat × Option Nat) (a0 a1 a2 : Int) (b3 b4 : Bool) (hA : pcR l k none = A) (hb : bE A.2.2 = [.int .i64 a0, .int .i64 a1, .int .i64 a2, .bool b3, .bool b4]) (hk : k ≤ l.length) (hl : l.length ≤ 1048576) :
    Calls Tryd.prog 70 #[strV l, .int .i64 k] w fun ev w' => ev = .returned (.tuple #[strV A.1, .int .i64 (aN A), .agg #[.int .i64 a0, .int .i64 a1, .int .i64 a2, .bool b3, .bool b4]]) ∧ Below w.heap.size w w' := by
  have h := rpiece_any l k w hk hl
  have ht := fun p => pcR_err (l := l) (k := k) (e := none) (p := p)
  rw [hA] at h ht
  obtain ⟨t, k1, e⟩ := A
  cases e with
  | none =>
    simp only [bE, List.cons.injEq, Value.int.injEq, Value.bool.injEq, true_and, and_true] at hb
    obtain ⟨rfl, rfl, rfl, rfl, rfl⟩ := hb
    exact h
  | some p =>
    have ht' : t = [] := ht p rfl
    subst ht'
    simp only [bE, List.cons.injEq, Value.int.injEq, Value.bool.injEq, true_and, and_true] at hb
    obtain ⟨rfl, rfl, rfl, rfl, rfl⟩ := hb
    exact h
/-- how far it still has to go -/
def meas2 (l : List UInt8) (B : Nat) (i : Value) (w : World) : Nat :=
  match w.cell? ⟨B, 0, none⟩ with
  | some (.int _ x) => if x = 0 then l.length + 1 - (intOf i).toNat else 0
  | _ => 0
theorem meas2_of {l : List UInt8} {B k : Nat} {w : World} {e : Option Nat} (h : CA w B (bE e)) : (e = none → meas2 l B (.int .i64 k) w = l.length + 1 - k) ∧ (e ≠ none → meas2 l B (.int .i64 k) w = 0) := by
  cases e with
  | none =>
    refine ⟨fun _ => ?_, fun h => absurd rfl h⟩
    unfold meas2
    rw [h 0 _ rfl]
    simp [intOf]
  | some p =>
    refine ⟨fun h => (by cases h), fun _ => ?_⟩
    unfold meas2
    rw [h 0 _ rfl]
    simp
theorem results_sb {fn : Func} {p q : Tmp} (h : fn.results = #[.cell p 24, .cell q 35]) (tmps : Array Value) (w : World) (R R' : Nat) (x0 x1 x2 y0 y1 y2 y3 y4 : Value) (hp : tmps[p]?.getD undef = .pointer (some ⟨R, 0, none⟩)) (hq : tmps[q]?.getD undef = .pointer (some ⟨R', 0, none⟩))
    (z : CA w R [x0, x1, x2]) (y : CA w R' [y0, y1, y2, y3, y4]) :
    (results fn tmps).run Tryd.prog w = .ok (.tuple #[.agg #[x0, x1, x2], .agg #[y0, y1, y2, y3, y4]]) w := by
  simp [results, h, go_sem, hp, hq, z 0 _ rfl, z 1 _ rfl, z 2 _ rfl, y 0 _ rfl, y 1 _ rfl, y 2 _ rfl, y 3 _ rfl, y 4 _ rfl]
theorem round_fin {w0 wr W : World} {S B k k' f' : Nat} {l m a b : List UInt8} {v' : Value} {ts : List (List UInt8 × List UInt8)} {e' : Option Nat} {Z : Option Nat × Nat × List (List UInt8 × List UInt8)}
    (HFF : l.length ≤ k + 1 + f' ∧ Z = lpF l f' (tagF l k).1 (tagF l k).2.1 (ts ++ [(tagF l k).2.2]) ∧ (((tagF l k).1 = none → k + 1 ≤ (tagF l k).2.1 ∧ (tagF l k).2.1 ≤ l.length) ∧ (tagF l k).2.2.1.length ≤ l.length ∧ (tagF l k).2.2.2.length ≤ l.length) ∧ ts.length ≤ k ∧ TsLe l ts)
    (htag : tagF l k = (e', k', (a, b))) (hk : e' ≠ none → k' = 0) (HQ : QL w0 W S B l m [] v' (ts ++ [(a, b)]) e') (HM : meas2 l B (.int .i64 k) wr = l.length + 1 - k) (hlt : k < l.length) :
    (∃ (k : Nat) (f : Nat) (e : Option Nat) (ts : List (List UInt8 × List UInt8)) (v : Value), Value.int .i64 (k' : Int) = .int .i64 k ∧ Bx (QL w0 W S B l m [] v ts e) ∧ Bx ((e = none → l.length ≤ k + f ∧ ts.length ≤ k) ∧ k ≤ l.length ∧ ts.length ≤ l.length ∧ TsLe l ts ∧ lpF l f e k ts = Z)) ∧
    meas2 l B (.int .i64 (k' : Int)) W < meas2 l B (.int .i64 k) wr := by
  obtain ⟨hf', hlp', htf, htl, hts⟩ := HFF
  rw [htag] at hlp' htf
  obtain ⟨h1, h2, h3⟩ := htf
  simp only at h1 h2 h3 hlp'
  have hkl : k' ≤ l.length := by
    cases e' with
    | none => exact (h1 rfl).2
    | some p => have := hk (by simp); omega
  refine ⟨⟨k', f', e', ts ++ [(a, b)], v', rfl, ⟨HQ⟩, ⟨fun h => ?_, hkl, by simp; omega, ?_, hlp'.symm⟩⟩, ?_⟩
  · have := h1 h; exact ⟨by omega, by simp; omega⟩
  · intro p hp
    simp only [List.mem_append, List.mem_cons, List.not_mem_nil, or_false] at hp
    rcases hp with hp | rfl
    · exact hts p hp
    · exact ⟨h2, h3⟩
  · rw [HM]
    cases e' with
    | none => rw [(meas2_of HQ.b).1 rfl]; have := h1 rfl; omega
    | some p => rw [(meas2_of HQ.b).2 (by simp)]; omega
set_option maxHeartbeats 8000000 in
set_option maxRecDepth 100000 in
theorem rparse_any (l : List UInt8) (w : World) (hl : l.length ≤ 1048576) :
    Calls Tryd.prog 35 #[strV l] w fun ev w' => ParK l (fun p => badAt p 53) (fun c => badV c) (badV 0) ev w' ∧ Below w.heap.size w w' := by
  obtain ⟨i0, hi, hiz, hi1, hi2⟩ := info_parts (show (Tryd.prog.info? 67).map (fun i => (i.zero, i.size, i.bytes)) = some (some (.agg #[.string ⟨#[]⟩, .string ⟨#[]⟩]), 2, 32) by kernel_rfl)
  have HI0 : Bx (Tryd.prog.info? 67 = some i0 ∧ i0.zero = some (.agg #[.string ⟨#[]⟩, .string ⟨#[]⟩]) ∧ i0.size = 2 ∧ i0.bytes = 32) := ⟨hi, hiz, hi1, hi2⟩
  clear hi hiz hi1 hi2
  have hz : parF l = ((endF l (lpF l l.length (pcR l 0 none).2.2 (pcR l 0 none).2.1 []).2.1 (lpF l l.length (pcR l 0 none).2.2 (pcR l 0 none).2.1 []).1).1, (pcR l 0 none).1, (lpF l l.length (pcR l 0 none).2.2 (pcR l 0 none).2.1 []).2.2,
    (endF l (lpF l l.length (pcR l 0 none).2.2 (pcR l 0 none).2.1 []).2.1 (lpF l l.length (pcR l 0 none).2.2 (pcR l 0 none).2.1 []).1).2) := rfl
  have hpl0 := pcR_le l 0 none (by omega)
  have haN : aN (pcR l 0 none) = (pcR l 0 none).2.1 := by
    cases h : (pcR l 0 none).2.2 with
    | none => exact aN_none h
    | some p => rw [aN_some h, pcR_at h]
  obtain ⟨a0, a1, a2, b3, b4, hb0, hb1, hb2⟩ := bE_parts (pcR l 0 none).2.2
  have kp := fun w => rpiece_to l 0 w _ a0 a1 a2 b3 b4 rfl hb0 (by omega) hl
  rw [haN] at kp
  generalize pcR l 0 none = A at *
  obtain ⟨m, k0, e0⟩ := A
  simp only at hpl0 hz hb0 hb1 hb2 kp
  clear haN
  obtain ⟨Z, hZ⟩ : ∃ Z, lpF l l.length e0 k0 [] = Z := ⟨_, rfl⟩
  rw [hZ] at hz
  have HZ : Bx (parF l = ((endF l Z.2.1 Z.1).1, m, Z.2.2, (endF l Z.2.1 Z.1).2)) := ⟨hz⟩
  have HZL : Bx (lpF l l.length e0 k0 [] = Z) := ⟨hZ⟩
  clear hz hZ
  go_enter Tryd.func35, Tryd.ntmps35
  go_wp2_with fail
  refine (kp _).mono ?_
  rintro e w2 ⟨rfl, h2⟩
  have hbz := below3 w (.cells #[strV [], .slice none 0 0, strV []] 24) (.cells #[.int .i64 0, .int .i64 0, .int .i64 0, .bool false, .bool false] 35) (.cells #[strV [], .slice none 0 0, strV []] 24)
  have ca0 : CA (((w.alloc (.cells #[strV [], .slice none 0 0, strV []] 24)).alloc (.cells #[.int .i64 0, .int .i64 0, .int .i64 0, .bool false, .bool false] 35)).alloc (.cells #[strV [], .slice none 0 0, strV []] 24)) w.heap.size [strV [], .slice none 0 0, strV []] :=
    (CA.alloc w [strV [], .slice none 0 0, strV []] _).grown (row := none) (grown_alloc (grown_alloc (grown_refl _ _) _) _) (by simp)
  have ca1 : CA (((w.alloc (.cells #[strV [], .slice none 0 0, strV []] 24)).alloc (.cells #[.int .i64 0, .int .i64 0, .int .i64 0, .bool false, .bool false] 35)).alloc (.cells #[strV [], .slice none 0 0, strV []] 24)) (w.heap.size + 1) (bE none) := by
    have := (CA.alloc (w.alloc (.cells #[strV [], .slice none 0 0, strV []] 24)) (bE none) 35).grown (row := none) (grown_alloc (grown_refl _ _) (.cells #[strV [], .slice none 0 0, strV []] 24)) (by simp)
    rwa [show (w.alloc (.cells #[strV [], .slice none 0 0, strV []] 24)).heap.size = w.heap.size + 1 by simp] at this
  have ca2 : CA (((w.alloc (.cells #[strV [], .slice none 0 0, strV []] 24)).alloc (.cells #[.int .i64 0, .int .i64 0, .int .i64 0, .bool false, .bool false] 35)).alloc (.cells #[strV [], .slice none 0 0, strV []] 24)) (w.heap.size + 1 + 1) [strV [], .slice none 0 0, strV []] := by
    have := CA.alloc ((w.alloc (.cells #[strV [], .slice none 0 0, strV []] 24)).alloc (.cells #[.int .i64 0, .int .i64 0, .int .i64 0, .bool false, .bool false] 35)) [strV [], .slice none 0 0, strV []] 24
    rwa [show ((w.alloc (.cells #[strV [], .slice none 0 0, strV []] 24)).alloc (.cells #[.int .i64 0, .int .i64 0, .int .i64 0, .bool false, .bool false] 35)).heap.size = w.heap.size + 1 + 1 by simp] at this
  have cf : ∀ R i, (R = w.heap.size ∨ R = w.heap.size + 1 ∨ R = w.heap.size + 1 + 1) → (((w.alloc (.cells #[strV [], .slice none 0 0, strV []] 24)).alloc (.cells #[.int .i64 0, .int .i64 0, .int .i64 0, .bool false, .bool false] 35)).alloc (.cells #[strV [], .slice none 0 0, strV []] 24)).frozen? ⟨R, i, none⟩ = false := fun R i h => by
    rcases h with rfl | rfl | rfl
    · rw [World.frozen?_alloc_old _ _ _ (by simp only [heap_push, Array.size_push]; omega), World.frozen?_alloc_old _ _ _ (by simp only [heap_push, Array.size_push]; omega)]; exact World.frozen?_alloc_at _ _ _ _ rfl
    · rw [World.frozen?_alloc_old _ _ _ (by simp only [heap_push, Array.size_push]; omega)]; exact World.frozen?_alloc_at _ _ _ _ (by simp)
    · exact World.frozen?_alloc_at _ _ _ _ (by simp)
  have hsz : w.heap.size + 3 = (((w.alloc (.cells #[strV [], .slice none 0 0, strV []] 24)).alloc (.cells #[.int .i64 0, .int .i64 0, .int .i64 0, .bool false, .bool false] 35)).alloc (.cells #[strV [], .slice none 0 0, strV []] 24)).heap.size := by simp
  change Below (((w.alloc (.cells #[strV [], .slice none 0 0, strV []] 24)).alloc (.cells #[.int .i64 0, .int .i64 0, .int .i64 0, .bool false, .bool false] 35)).alloc (.cells #[strV [], .slice none 0 0, strV []] 24)).heap.size (((w.alloc (.cells #[strV [], .slice none 0 0, strV []] 24)).alloc (.cells #[.int .i64 0, .int .i64 0, .int .i64 0, .bool false, .bool false] 35)).alloc (.cells #[strV [], .slice none 0 0, strV []] 24)) w2 at h2
  generalize ((w.alloc (.cells #[strV [], .slice none 0 0, strV []] 24)).alloc (.cells #[.int .i64 0, .int .i64 0, .int .i64 0, .bool false, .bool false] 35)).alloc (.cells #[strV [], .slice none 0 0, strV []] 24) = w1 at *
  generalize hS : w.heap.size = S at *
  have HS : Bx (w.heap.size = S) := ⟨hS⟩
  clear hS
  have hs2 := h2.size
  have h3 : Below w1.heap.size w1 (w2.alloc (.cells #[.int .i64 a0, .int .i64 a1, .int .i64 a2, .bool b3, .bool b4] 35)) := h2.trans ((below1 _ _).mono hs2)
  have hQ : QL w (w2.alloc (.cells #[.int .i64 a0, .int .i64 a1, .int .i64 a2, .bool b3, .bool b4] 35)) S w2.heap.size l [] [] (.slice none 0 0) [] e0 := by
    refine ⟨hbz.trans (h3.mono (by omega)), by omega, by simp only [heap_push, Array.size_push]; omega, ca2.grown (grown_below h3 none) (by simp), ca0.grown (grown_below h3 none) (by simp), ca1.grown (grown_below h3 none) (by simp), ?_, fun R i hR => ?_, World.ownsRow_nil _ _ _ _⟩
    · rw [hb0]; exact CA.alloc w2 [.int .i64 a0, .int .i64 a1, .int .i64 a2, .bool b3, .bool b4] _
    · by_cases hRB : R = w2.heap.size
      · subst hRB; exact World.frozen?_alloc_at _ _ _ _ rfl
      · rw [h3.frozen (p := ⟨R, i, none⟩) (by show R < _; omega)]; exact cf R i (by omega)
  have HQ : Bx _ := ⟨hQ.setM m⟩
  have q0 := hQ.o 0 _ rfl
  have qf := fun i => hQ.f (S + 1 + 1) i (by omega)
  have qlt : S + 1 + 1 < (w2.alloc (.cells #[.int .i64 a0, .int .i64 a1, .int .i64 a2, .bool b3, .bool b4] 35)).heap.size := cell_lt q0
  clear h2 h3 hs2 hsz cf ca0 ca1 ca2 hbz hQ kp hb0 hb1 hb2
  go_wp2_with fail
  change Code.wp _ _ _ _ ((w2.alloc (.cells #[.int .i64 a0, .int .i64 a1, .int .i64 a2, .bool b3, .bool b4] 35)).setCell ⟨S + 1 + 1, 0, none⟩ (strV m))
  clear q0 qf qlt
  generalize (w2.alloc (.cells #[.int .i64 a0, .int .i64 a1, .int .i64 a2, .bool b3, .bool b4] 35)).setCell ⟨S + 1 + 1, 0, none⟩ (strV m) = w3 at *
  generalize w2.heap.size = B at *
  go_loopw [6] (fun i wr => ∃ (k f : Nat) (e : Option Nat) (ts : List (List UInt8 × List UInt8)) (v : Value), i = .int .i64 k ∧ Bx (QL w wr S B l m [] v ts e) ∧ Bx ((e = none → l.length ≤ k + f ∧ ts.length ≤ k) ∧ k ≤ l.length ∧ ts.length ≤ l.length ∧ TsLe l ts ∧ lpF l f e k ts = Z)) (fun i wr => meas2 l B i wr)
  case atStart => exact ⟨k0, l.length, e0, [], .slice none 0 0, rfl, HQ, ⟨fun _ => ⟨by omega, by simp⟩, by omega, by simp, fun p hp => (by cases hp), HZL.out⟩⟩
  case round =>
    obtain ⟨k, f, e, ts, v, rfl, HP, HF⟩ := hrel
    clear HQ HZL
    cases hb : isR l k e 44
    · have hZ : Z = (e, k, ts) := by rw [← HF.out.2.2.2.2, lpF_stop hb]
      have hz := HZ.out
      rw [hZ] at hz
      have HY : Bx _ := ⟨And.intro hz (And.intro HF.out.2.2.1 HF.out.2.2.2.1)⟩
      have hkl := HF.out.2.1
      clear hz hZ HF HZ
      cases e with
      | some p =>
        have HX : Bx _ := ⟨HP.out⟩
        have HP8 : Bx (parF l = (some p, m, ts, [])) := ⟨by rw [HY.out.1]; rfl⟩
        clear HP HY
        have xb0 := HX.out.b 0 _ rfl
        have xb1 := HX.out.b 1 _ rfl
        have xb2 := HX.out.b 2 _ rfl
        have xb3 := HX.out.b 3 _ rfl
        have xb4 := HX.out.b 4 _ rfl
        have r0 := HX.out.r 0 _ rfl
        have r1 := HX.out.r 1 _ rfl
        have r2 := HX.out.r 2 _ rfl
        have dd0 := HX.out.d 0 _ rfl
        have dd1 := HX.out.d 1 _ rfl
        have dd2 := HX.out.d 2 _ rfl
        have dd3 := HX.out.d 3 _ rfl
        have dd4 := HX.out.d 4 _ rfl
        have rf := fun i => HX.out.f S i (by omega)
        have df := fun i => HX.out.f (S + 1) i (by omega)
        have rlt := cell_lt r0
        have dlt := cell_lt dd0
        have n1 : ¬ B = S := by have := HX.out.sb; omega
        have n2 : ¬ S = B := by have := HX.out.sb; omega
        have n3 : ¬ B = S + 1 := by have := HX.out.sb; omega
        have n4 : ¬ S + 1 = B := by have := HX.out.sb; omega
        go_wp2_with fail
        go_region
        go_wp2_with fail
        obtain ⟨z, y, zb, _⟩ := HX.out.fin (.string ⟨#[]⟩) (.slice none 0 0) (.string ⟨#[]⟩) (.int .i64 53) (.int .i64 p) (.int .i64 0) (.bool true) (.bool false)
        exact bodyPost_ret (results_sb rfl _ _ S (S + 1) (strV []) (.slice none 0 0) (strV []) _ _ _ _ _ rfl rfl z.drew y.drew) rfl ⟨.inl ⟨p, by rw [HP8.out], rfl⟩, by rw [HS.out]; exact zb.trans (Below.refl _ _).drew⟩
      | none =>
        have bb0 := HP.out.b 0 _ rfl
        have hsub : (l.length ≤ k) ∨ (k < l.length ∧ ¬ l.getD k 0 = 44) := by
          by_cases h : k < l.length
          · refine .inr ⟨h, fun h2 => ?_⟩
            unfold isR at hb
            rw [h2] at hb
            simp [h] at hb
          · exact .inl (by omega)
        have kg := fun w => rsign_any l k 32 w hkl hl
        obtain ⟨sg, hsg⟩ : ∃ sg, isR l k none 32 = sg := ⟨_, rfl⟩
        rw [hsg] at kg
        clear hb
        rcases hsub with hke | ⟨hklt, hby⟩
        case' inl => have hq := True.intro
        case' inr =>
          obtain ⟨a, ha⟩ : ∃ a, l.getD k 0 = a := ⟨_, rfl⟩
          have hak : ((⟨l.toArray⟩ : ByteArray)[k]'(by simpa [ByteArray.size] using hklt)) = a := by rw [getD_toArray' hklt, ha]
          have h44 : (((a.toNat : Int) == 44) : Bool) = (a == 44) := byte_eq a 44 44 rfl
          have hq : (((a.toNat : Int) == 44) : Bool) = false := by rw [h44, ← ha]; simpa using hby
          clear h44
          clear ha hby
        all_goals
          go_wp2_with fail
          refine (kg _).mono ?_
          rintro ev w5 ⟨rfl, h5⟩
          have H5 := HP.out.step h5
          clear kg h5 HP bb0
          have bb0 := H5.b 0 _ rfl
          have bb1 := H5.b 1 _ rfl
          have bb2 := H5.b 2 _ rfl
          have bb3 := H5.b 3 _ rfl
          have bb4 := H5.b 4 _ rfl
          have bf := fun i => H5.f B i (by omega)
          have blt := H5.blt
          cases sg
          · have HX : Bx _ := ⟨H5.setB (some k) _ _ _ _ _ rfl⟩
            have HP8 : Bx (parF l = (some k, m, ts, [])) := ⟨by rw [HY.out.1]; unfold endF; simp only; rw [if_neg (by rw [hsg]; simp)]⟩
            clear H5 HY hsg
            go_upto_region 14 with (fail)
            change Code.wp _ _ _ _ ((((((w5).setCell ⟨B, 0, none⟩ (.int .i64 53)).setCell ⟨B, 1, none⟩ (.int .i64 k)).setCell ⟨B, 2, none⟩ (.int .i64 0)).setCell ⟨B, 3, none⟩ (.bool true)).setCell ⟨B, 4, none⟩ (.bool false))
            generalize (((((w5).setCell ⟨B, 0, none⟩ (.int .i64 53)).setCell ⟨B, 1, none⟩ (.int .i64 k)).setCell ⟨B, 2, none⟩ (.int .i64 0)).setCell ⟨B, 3, none⟩ (.bool true)).setCell ⟨B, 4, none⟩ (.bool false) = w6 at *
            clear bb0 bb1 bb2 bb3 bb4 bf blt
            have xb0 := HX.out.b 0 _ rfl
            have xb1 := HX.out.b 1 _ rfl
            have xb2 := HX.out.b 2 _ rfl
            have xb3 := HX.out.b 3 _ rfl
            have xb4 := HX.out.b 4 _ rfl
            have r0 := HX.out.r 0 _ rfl
            have r1 := HX.out.r 1 _ rfl
            have r2 := HX.out.r 2 _ rfl
            have dd0 := HX.out.d 0 _ rfl
            have dd1 := HX.out.d 1 _ rfl
            have dd2 := HX.out.d 2 _ rfl
            have dd3 := HX.out.d 3 _ rfl
            have dd4 := HX.out.d 4 _ rfl
            have rf := fun i => HX.out.f S i (by omega)
            have df := fun i => HX.out.f (S + 1) i (by omega)
            have rlt := cell_lt r0
            have dlt := cell_lt dd0
            have n1 : ¬ B = S := by have := HX.out.sb; omega
            have n2 : ¬ S = B := by have := HX.out.sb; omega
            have n3 : ¬ B = S + 1 := by have := HX.out.sb; omega
            have n4 : ¬ S + 1 = B := by have := HX.out.sb; omega
            go_wp2_with fail
            go_region
            go_wp2_with fail
            obtain ⟨z, y, zb, _⟩ := HX.out.fin (.string ⟨#[]⟩) (.slice none 0 0) (.string ⟨#[]⟩) (.int .i64 53) (.int .i64 k) (.int .i64 0) (.bool true) (.bool false)
            exact bodyPost_ret (results_sb rfl _ _ S (S + 1) (strV []) (.slice none 0 0) (strV []) _ _ _ _ _ rfl rfl z.drew y.drew) rfl ⟨.inl ⟨k, by rw [HP8.out], rfl⟩, by rw [HS.out]; exact zb.trans (Below.refl _ _).drew⟩
          · have hkl1 := (isR_lt hsg).2.1
            try (exfalso; omega)
            all_goals
              have HX : Bx _ := ⟨H5.setB none _ _ _ _ _ rfl⟩
              clear H5
              go_upto_region 14 with (fail)
              change Code.wp _ _ _ _ ((((((w5).setCell ⟨B, 0, none⟩ (.int .i64 0)).setCell ⟨B, 1, none⟩ (.int .i64 0)).setCell ⟨B, 2, none⟩ (.int .i64 0)).setCell ⟨B, 3, none⟩ (.bool false)).setCell ⟨B, 4, none⟩ (.bool false))
              generalize (((((w5).setCell ⟨B, 0, none⟩ (.int .i64 0)).setCell ⟨B, 1, none⟩ (.int .i64 0)).setCell ⟨B, 2, none⟩ (.int .i64 0)).setCell ⟨B, 3, none⟩ (.bool false)).setCell ⟨B, 4, none⟩ (.bool false) = w6 at *
              clear bb0 bb1 bb2 bb3 bb4 bf blt
              have xb0 := HX.out.b 0 _ rfl
              obtain ⟨C, hC⟩ : ∃ C, pcR l (k + 1) none = C := ⟨_, rfl⟩
              obtain ⟨c0, c1, c2, d3, d4, hc0, hc1, hc2⟩ := bE_parts C.2.2
              have kp := fun w => rpiece_to l (k + 1) w C c0 c1 c2 d3 d4 hC hc0 (by omega) hl
              try rw [Int.natCast_succ] at kp
              have hend : endF l k none = match C.2.2 with | some p => (some p, []) | none => if C.2.1 < l.length then (some C.2.1, []) else (none, C.1) := by
                rw [← hC]; unfold endF; simp only; rw [if_pos hsg]
                cases (pcR l (k + 1) none).2.2 <;> rfl
              obtain ⟨g1, g2, g3⟩ := pcR_le l (k + 1) none (by omega)
              rw [hC] at g1 g2 g3
              go_wp2_with fail
              refine (kp _).mono ?_
              rintro ev w7 ⟨rfl, h7⟩
              have H7 := HX.out.step h7
              clear xb0 HX kp h7 hsg hC
              obtain ⟨ct, ck, ce⟩ := C
              simp only at hc0 hc1 hc2 hend g1 g2 g3
              have bb0 := H7.b 0 _ rfl
              have bb1 := H7.b 1 _ rfl
              have bb2 := H7.b 2 _ rfl
              have bb3 := H7.b 3 _ rfl
              have bb4 := H7.b 4 _ rfl
              have bf := fun i => H7.f B i (by omega)
              have blt := H7.blt
              have oo := H7.o 2 _ rfl
              have of_ := fun i => H7.f (S + 1 + 1) i (by omega)
              have olt := cell_lt oo
              have n5 : S + 1 + 1 < B := H7.sb
              have n6 : ¬ B = S + 1 + 1 := by omega
              have n7 : ¬ S + 1 + 1 = B := by omega
              have HX : Bx _ := ⟨(H7.setF ct).setB ce _ _ _ _ _ hc0⟩
              clear H7
              go_upto_region 16 with (fail)
              change Code.wp _ _ _ _ ((((((w7.setCell ⟨S + 1 + 1, 2, none⟩ (strV ct)).setCell ⟨B, 0, none⟩ (.int .i64 c0)).setCell ⟨B, 1, none⟩ (.int .i64 c1)).setCell ⟨B, 2, none⟩ (.int .i64 c2)).setCell ⟨B, 3, none⟩ (.bool d3)).setCell ⟨B, 4, none⟩ (.bool d4))
              generalize (((((w7.setCell ⟨S + 1 + 1, 2, none⟩ (strV ct)).setCell ⟨B, 0, none⟩ (.int .i64 c0)).setCell ⟨B, 1, none⟩ (.int .i64 c1)).setCell ⟨B, 2, none⟩ (.int .i64 c2)).setCell ⟨B, 3, none⟩ (.bool d3)).setCell ⟨B, 4, none⟩ (.bool d4) = w8 at *
              clear bb0 bb1 bb2 bb3 bb4 bf blt oo of_ olt n5 n6 n7
              cases ce with
              | some p =>
                have HP8 : Bx (parF l = (some p, m, ts, [])) := ⟨by rw [HY.out.1, hend]⟩
                clear HY hend hc0 hc1 hc2
                rw [aN_some (z := (ct, ck, some p)) rfl]
                have xb0 := HX.out.b 0 _ rfl
                have xb1 := HX.out.b 1 _ rfl
                have xb2 := HX.out.b 2 _ rfl
                have xb3 := HX.out.b 3 _ rfl
                have xb4 := HX.out.b 4 _ rfl
                have r0 := HX.out.r 0 _ rfl
                have r1 := HX.out.r 1 _ rfl
                have r2 := HX.out.r 2 _ rfl
                have dd0 := HX.out.d 0 _ rfl
                have dd1 := HX.out.d 1 _ rfl
                have dd2 := HX.out.d 2 _ rfl
                have dd3 := HX.out.d 3 _ rfl
                have dd4 := HX.out.d 4 _ rfl
                have rf := fun i => HX.out.f S i (by omega)
                have df := fun i => HX.out.f (S + 1) i (by omega)
                have rlt := cell_lt r0
                have dlt := cell_lt dd0
                have n1 : ¬ B = S := by have := HX.out.sb; omega
                have n2 : ¬ S = B := by have := HX.out.sb; omega
                have n3 : ¬ B = S + 1 := by have := HX.out.sb; omega
                have n4 : ¬ S + 1 = B := by have := HX.out.sb; omega
                go_wp2_with fail
                go_region
                go_wp2_with fail
                obtain ⟨z, y, zb, _⟩ := HX.out.fin (.string ⟨#[]⟩) (.slice none 0 0) (.string ⟨#[]⟩) (.int .i64 53) (.int .i64 p) (.int .i64 0) (.bool true) (.bool false)
                exact bodyPost_ret (results_sb rfl _ _ S (S + 1) (strV []) (.slice none 0 0) (strV []) _ _ _ _ _ rfl rfl z.drew y.drew) rfl ⟨.inl ⟨p, by rw [HP8.out], rfl⟩, by rw [HS.out]; exact zb.trans (Below.refl _ _).drew⟩
              | none =>
                have hz2 : aN (ct, ck, (none : Option Nat)) = ck := aN_none rfl
                rw [hz2]
                simp only at hend
                have xb0 := HX.out.b 0 _ rfl
                by_cases hck : ck < l.length
                · rw [if_pos hck] at hend
                  have HP8 : Bx (parF l = (some ck, m, ts, [])) := ⟨by rw [HY.out.1, hend]⟩
                  clear HY hend hc0 hc1 hc2 hz2
                  go_wp2_with fail
                  refine (badat_any _ 53 _ (by decide)).mono ?_
                  rintro ev w9 ⟨rfl, h9⟩
                  have H9 := HX.out.step h9
                  clear h9 HX xb0
                  have bb0 := H9.b 0 _ rfl
                  have bb1 := H9.b 1 _ rfl
                  have bb2 := H9.b 2 _ rfl
                  have bb3 := H9.b 3 _ rfl
                  have bb4 := H9.b 4 _ rfl
                  have bf := fun i => H9.f B i (by omega)
                  have blt := H9.blt
                  have HX : Bx _ := ⟨H9.setB (some ck) _ _ _ _ _ rfl⟩
                  clear H9
                  go_upto_region 18 with (fail)
                  change Code.wp _ _ _ _ ((((((w9).setCell ⟨B, 0, none⟩ (.int .i64 53)).setCell ⟨B, 1, none⟩ (.int .i64 ck)).setCell ⟨B, 2, none⟩ (.int .i64 0)).setCell ⟨B, 3, none⟩ (.bool true)).setCell ⟨B, 4, none⟩ (.bool false))
                  generalize (((((w9).setCell ⟨B, 0, none⟩ (.int .i64 53)).setCell ⟨B, 1, none⟩ (.int .i64 ck)).setCell ⟨B, 2, none⟩ (.int .i64 0)).setCell ⟨B, 3, none⟩ (.bool true)).setCell ⟨B, 4, none⟩ (.bool false) = w10 at *
                  clear bb0 bb1 bb2 bb3 bb4 bf blt
                  have xb0 := HX.out.b 0 _ rfl
                  have xb1 := HX.out.b 1 _ rfl
                  have xb2 := HX.out.b 2 _ rfl
                  have xb3 := HX.out.b 3 _ rfl
                  have xb4 := HX.out.b 4 _ rfl
                  have r0 := HX.out.r 0 _ rfl
                  have r1 := HX.out.r 1 _ rfl
                  have r2 := HX.out.r 2 _ rfl
                  have dd0 := HX.out.d 0 _ rfl
                  have dd1 := HX.out.d 1 _ rfl
                  have dd2 := HX.out.d 2 _ rfl
                  have dd3 := HX.out.d 3 _ rfl
                  have dd4 := HX.out.d 4 _ rfl
                  have rf := fun i => HX.out.f S i (by omega)
                  have df := fun i => HX.out.f (S + 1) i (by omega)
                  have rlt := cell_lt r0
                  have dlt := cell_lt dd0
                  have n1 : ¬ B = S := by have := HX.out.sb; omega
                  have n2 : ¬ S = B := by have := HX.out.sb; omega
                  have n3 : ¬ B = S + 1 := by have := HX.out.sb; omega
                  have n4 : ¬ S + 1 = B := by have := HX.out.sb; omega
                  go_wp2_with fail
                  go_region
                  go_wp2_with fail
                  obtain ⟨z, y, zb, _⟩ := HX.out.fin (.string ⟨#[]⟩) (.slice none 0 0) (.string ⟨#[]⟩) (.int .i64 53) (.int .i64 ck) (.int .i64 0) (.bool true) (.bool false)
                  exact bodyPost_ret (results_sb rfl _ _ S (S + 1) (strV []) (.slice none 0 0) (strV []) _ _ _ _ _ rfl rfl z.drew y.drew) rfl ⟨.inl ⟨ck, by rw [HP8.out], rfl⟩, by rw [HS.out]; exact zb.trans (Below.refl _ _).drew⟩
                · rw [if_neg hck] at hend
                  have HP8 : Bx (parF l = (none, m, ts, ct)) := ⟨by rw [HY.out.1, hend]⟩
                  have HTS : Bx (∀ p ∈ ts, p.1.length ≤ 9223372036854775807 ∧ p.2.length ≤ 9223372036854775807) := ⟨fun p hp => by have := HY.out.2.2 p hp; omega⟩
                  obtain ⟨A, cap, rfl, hrow⟩ := row_of_owns HX.out.own HTS.out
                  have hser : SerIn w8 m ct A ts.length (fun i => (ts.getD i ([], [])).1) (fun i => (ts.getD i ([], [])).2) := ⟨hrow, by omega, by omega, by have := HY.out.2.1; omega⟩
                  have ks := rseries_any m ct A ts.length cap _ _ w8 hser
                  obtain ⟨c, hc⟩ : ∃ c, seriesC m ct ts.length (fun i => (ts.getD i ([], [])).1) (fun i => (ts.getD i ([], [])).2) = c := ⟨_, rfl⟩
                  have hcp : 0 ≤ c := by rw [← hc]; exact seriesC_pos _ _ _ _ _
                  rw [hc] at ks
                  have HC : Bx _ := ⟨hc⟩
                  have HSL : Bx _ := ⟨And.intro hser.m (And.intro hser.f hser.n)⟩
                  have o0 := HX.out.o 0 _ rfl
                  have o1 := HX.out.o 1 _ rfl
                  have o2 := HX.out.o 2 _ rfl
                  clear HY hend hc0 hc1 hc2 hz2 hrow hser hc
                  go_wp2_with fail
                  refine ks.mono ?_
                  rintro ev w9 ⟨rfl, h9⟩
                  have H9 := HX.out.step h9
                  clear ks h9 HX o0 o1 o2 xb0
                  have hsb := H9.sb
                  have bb0 := H9.b 0 _ rfl
                  have bb1 := H9.b 1 _ rfl
                  have bb2 := H9.b 2 _ rfl
                  have bb3 := H9.b 3 _ rfl
                  have bb4 := H9.b 4 _ rfl
                  have bf := fun i => H9.f B i (by omega)
                  have blt := H9.blt
                  by_cases h0 : c = 0
                  · subst h0
                    have HX : Bx _ := ⟨H9.setB none _ _ _ _ _ rfl⟩
                    clear H9
                    go_upto_region 20 with (fail)
                    change Code.wp _ _ _ _ ((((((w9).setCell ⟨B, 0, none⟩ (.int .i64 0)).setCell ⟨B, 1, none⟩ (.int .i64 0)).setCell ⟨B, 2, none⟩ (.int .i64 0)).setCell ⟨B, 3, none⟩ (.bool false)).setCell ⟨B, 4, none⟩ (.bool false))
                    generalize (((((w9).setCell ⟨B, 0, none⟩ (.int .i64 0)).setCell ⟨B, 1, none⟩ (.int .i64 0)).setCell ⟨B, 2, none⟩ (.int .i64 0)).setCell ⟨B, 3, none⟩ (.bool false)).setCell ⟨B, 4, none⟩ (.bool false) = w10 at *
                    clear bb0 bb1 bb2 bb3 bb4 bf blt
                    have xb0 := HX.out.b 0 _ rfl
                    have o0 := HX.out.o 0 _ rfl
                    have o1 := HX.out.o 1 _ rfl
                    have o2 := HX.out.o 2 _ rfl
                    have r0 := HX.out.r 0 _ rfl
                    have r1 := HX.out.r 1 _ rfl
                    have r2 := HX.out.r 2 _ rfl
                    have dd0 := HX.out.d 0 _ rfl
                    have dd1 := HX.out.d 1 _ rfl
                    have dd2 := HX.out.d 2 _ rfl
                    have dd3 := HX.out.d 3 _ rfl
                    have dd4 := HX.out.d 4 _ rfl
                    have rf := fun i => HX.out.f S i (by omega)
                    have df := fun i => HX.out.f (S + 1) i (by omega)
                    have rlt := cell_lt r0
                    have dlt := cell_lt dd0
                    go_wp2_with fail
                    obtain ⟨z, y, zb, ho⟩ := HX.out.fin (strV m) (.slice A ts.length cap) (strV ct) (.int .i64 0) (.int .i64 0) (.int .i64 0) (.bool false) (.bool false)
                    obtain ⟨A', cap', hv, hrow⟩ := row_of_owns ho HTS.out
                    simp only [Value.slice.injEq, true_and] at hv
                    obtain ⟨rfl, rfl⟩ := hv
                    exact bodyPost_ret (results_sb rfl _ _ S (S + 1) (strV m) (.slice A ts.length cap) (strV ct) _ _ _ _ _ rfl rfl z y) rfl ⟨.inr (.inr ⟨by rw [HP8.out], by rw [HP8.out]; exact HC.out, A, cap, by rw [HP8.out], by rw [HP8.out]; exact ⟨hrow, HSL.out.1, HSL.out.2.1, HSL.out.2.2⟩⟩), by rw [HS.out]; exact zb⟩
                  · have hc1 : 1 ≤ c := by omega
                    have hcb : (c != 0) = true := by simpa using h0
                    obtain ⟨hr, hd, hbb, hbel, hfz⟩ := H9.setC (.int .i64 c) (.int .i64 0) (.int .i64 0) (.bool false) (.bool false)
                    have HRR : Bx _ := ⟨And.intro hr (And.intro hd hbel)⟩
                    clear H9
                    go_upto_region 20 with (fail)
                    change Code.wp _ _ _ _ ((((((w9).setCell ⟨B, 0, none⟩ (.int .i64 c)).setCell ⟨B, 1, none⟩ (.int .i64 0)).setCell ⟨B, 2, none⟩ (.int .i64 0)).setCell ⟨B, 3, none⟩ (.bool false)).setCell ⟨B, 4, none⟩ (.bool false))
                    generalize (((((w9).setCell ⟨B, 0, none⟩ (.int .i64 c)).setCell ⟨B, 1, none⟩ (.int .i64 0)).setCell ⟨B, 2, none⟩ (.int .i64 0)).setCell ⟨B, 3, none⟩ (.bool false)).setCell ⟨B, 4, none⟩ (.bool false) = w10 at *
                    clear bb0 bb1 bb2 bb3 bb4 bf blt
                    have xb0 := hbb 0 _ rfl
                    have xb1 := hbb 1 _ rfl
                    have xb2 := hbb 2 _ rfl
                    have xb3 := hbb 3 _ rfl
                    have xb4 := hbb 4 _ rfl
                    have r0 := hr 0 _ rfl
                    have r1 := hr 1 _ rfl
                    have r2 := hr 2 _ rfl
                    have dd0 := hd 0 _ rfl
                    have dd1 := hd 1 _ rfl
                    have dd2 := hd 2 _ rfl
                    have dd3 := hd 3 _ rfl
                    have dd4 := hd 4 _ rfl
                    have rf := fun i => hfz S i (by omega)
                    have df := fun i => hfz (S + 1) i (by omega)
                    have rlt := cell_lt r0
                    have dlt := cell_lt dd0
                    have n1 : ¬ B = S := by omega
                    have n2 : ¬ S = B := by omega
                    have n3 : ¬ B = S + 1 := by omega
                    have n4 : ¬ S + 1 = B := by omega
                    clear hr hd hbb hbel hfz
                    go_wp2_with fail
                    go_region
                    go_wp2_with fail
                    obtain ⟨z, y, zb⟩ := put_sb (.string ⟨#[]⟩) (.slice none 0 0) (.string ⟨#[]⟩) (.int .i64 c) (.int .i64 0) (.int .i64 0) (.bool false) (.bool false) HRR.out.1 HRR.out.2.1 HRR.out.2.2
                    exact bodyPost_ret (results_sb rfl _ _ S (S + 1) (strV []) (.slice none 0 0) (strV []) _ _ _ _ _ rfl rfl z.drew y.drew) rfl ⟨.inr (.inl ⟨c, hc1, by rw [HP8.out], by rw [HP8.out]; exact HC.out, rfl⟩), by rw [HS.out]; exact zb.trans (Below.refl _ _).drew⟩
    · obtain ⟨rfl, hklt, hby⟩ := isR_lt hb
      obtain ⟨hf1, hkl, htl2, hts, hlp⟩ := HF.out
      obtain ⟨hf, htl⟩ := hf1 rfl
      obtain ⟨f', hf', hlp'⟩ := lpF_step (ts := ts) hf hb
      rw [hlp] at hlp'
      have htf := tagF_le l k hklt
      have HFF : Bx _ := ⟨And.intro hf' (And.intro hlp' (And.intro htf (And.intro htl hts)))⟩
      have HM : Bx (meas2 l B (.int .i64 k) wr = l.length + 1 - k) := ⟨(meas2_of HP.out.b).1 rfl⟩
      have hak : ((⟨l.toArray⟩ : ByteArray)[k]'(by simpa [ByteArray.size] using hklt)) = 44 := by rw [getD_toArray' hklt, hby]
      have bb0 := HP.out.b 0 _ rfl
      have HT0 := TQ.new HP.out
      obtain ⟨A, hA⟩ : ∃ A, pcR l (k + 1) none = A := ⟨_, rfl⟩
      obtain ⟨a0, a1, a2, b3, b4, hb0, hb1, hb2⟩ := bE_parts A.2.2
      have kp := fun w => rpiece_to l (k + 1) w A a0 a1 a2 b3 b4 hA hb0 (by omega) hl
      rw [Int.natCast_succ] at kp
      obtain ⟨g1, g2, g3⟩ := pcR_le l (k + 1) none (by omega)
      rw [hA] at g1 g2 g3
      clear hf1 hlp' hlp hf' htf hts hf htl hb HF HP hby
      go_wp2_with fail
      refine (kp _).mono ?_
      rintro ev w4 ⟨rfl, h4⟩
      have HT1 := HT0.step h4
      clear kp h4 HT0 bb0
      generalize wr.heap.size = T at *
      obtain ⟨ta, ak, ae⟩ := A
      simp only at hb0 hb1 hb2 g1 g2 g3
      have HX : Bx _ := ⟨(HT1.key ta).bad ae _ _ _ _ _ hb0⟩
      have t0 := HT1.t 0 _ rfl
      have tf := HT1.tf
      have tl := HT1.tl
      have tb := HT1.tb
      have bb0 := HT1.q.b 0 _ rfl
      have bb1 := HT1.q.b 1 _ rfl
      have bb2 := HT1.q.b 2 _ rfl
      have bb3 := HT1.q.b 3 _ rfl
      have bb4 := HT1.q.b 4 _ rfl
      have bf := fun i => HT1.q.f B i (by omega)
      have blt := HT1.q.blt
      have x0 := HX.out.t 0 _ rfl
      have x1 := HX.out.t 1 _ rfl
      have xo := HX.out.q.o 1 _ rfl
      have xb := HX.out.q.b
      rw [hb0] at xb
      have xb0 := xb 0 _ rfl
      clear xb HT1
      go_upto_region 7 with (fail)
      change Code.wp _ _ _ _ ((((((w4.setCell ⟨T, 0, none⟩ (strV ta)).setCell ⟨B, 0, none⟩ (.int .i64 a0)).setCell ⟨B, 1, none⟩ (.int .i64 a1)).setCell ⟨B, 2, none⟩ (.int .i64 a2)).setCell ⟨B, 3, none⟩ (.bool b3)).setCell ⟨B, 4, none⟩ (.bool b4))
      generalize (((((w4.setCell ⟨T, 0, none⟩ (strV ta)).setCell ⟨B, 0, none⟩ (.int .i64 a0)).setCell ⟨B, 1, none⟩ (.int .i64 a1)).setCell ⟨B, 2, none⟩ (.int .i64 a2)).setCell ⟨B, 3, none⟩ (.bool b3)).setCell ⟨B, 4, none⟩ (.bool b4) = w5 at *
      clear t0 tf tl tb bb0 bb1 bb2 bb3 bb4 bf blt hak
      cases ae with
      | some p =>
        have ha : (a0 == 0) = false := hb1
        have hta : ta = [] := by have := pcR_err (l := l) (k := k + 1) (e := none) (p := p) (by rw [hA]); rwa [hA] at this
        have HTAG : Bx (tagF l k = (some p, 0, (ta, []))) := ⟨by unfold tagF; rw [hA]; simp only; rw [hta]⟩
        clear hta hA
        rw [aN_some (z := (ta, ak, some p)) rfl]
        go_wp2_with (at_builtin; refine wpList_append_lies _ rfl _ _ 22 rfl (B + 1) 67 i0 (.agg #[.string ⟨#[]⟩, .string ⟨#[]⟩]) 2 32 Tryd.underlying22 HI0.out.1 HI0.out.2.1 HI0.out.2.2.1 HI0.out.2.2.2 rfl (by decide) v ts.length (tagC ts) rfl (HX.out.q.own.alloc _) ⟨w5.heap.size, 0, none⟩ 1 1 [strV ta, strV []] rfl rfl (news2 w5 _ _ _) (one2 _ _) (by decide) (by unfold maxLen; omega) (by omega) (by have := HX.out.q.blt; simp only [heap_push, Array.size_push]; omega) _ rfl ?_; intro g cap w9 hown hgrow hat hlt9; obtain ⟨o9, of9, olt9⟩ := (HX.out.q.step (below1 _ _)).far hgrow)
        exact round_fin HFF.out HTAG.out (fun _ => rfl) ((HX.out.q.step (below1 _ _)).push hown hgrow) HM.out hklt
      | none =>
        have ha : (a0 == 0) = true := hb1
        have hz : aN (ta, ak, (none : Option Nat)) = ak := aN_none rfl
        rw [hz]
        obtain ⟨sg, hsg⟩ : ∃ sg, isR l ak none 61 = sg := ⟨_, rfl⟩
        have kg := fun w => rsign_any l ak 61 w g2 hl
        rw [hsg] at kg
        go_wp2_with fail
        refine (kg _).mono ?_
        rintro ev w6 ⟨rfl, h6⟩
        have hx5 := hb0
        simp only [bE, List.cons.injEq, Value.int.injEq, Value.bool.injEq, and_true, true_and] at hx5
        obtain ⟨rfl, rfl, rfl, rfl, rfl⟩ := hx5
        have HT1 := HX.out.step h6
        clear x0 x1 xo xb0 HX kg h6
        have t0 := HT1.t 0 _ rfl
        have t1 := HT1.t 1 _ rfl
        have tf := HT1.tf
        have tl := HT1.tl
        have tb := HT1.tb
        have bb0 := HT1.q.b 0 _ rfl
        have bb1 := HT1.q.b 1 _ rfl
        have bb2 := HT1.q.b 2 _ rfl
        have bb3 := HT1.q.b 3 _ rfl
        have bb4 := HT1.q.b 4 _ rfl
        have bf := fun i => HT1.q.f B i (by omega)
        have blt := HT1.q.blt
        cases sg
        · have HX : Bx _ := ⟨HT1.bad (some ak) _ _ _ _ _ rfl⟩
          have x0 := HX.out.t 0 _ rfl
          have x1 := HX.out.t 1 _ rfl
          have xo := HX.out.q.o 1 _ rfl
          have xb0 := HX.out.q.b 0 _ rfl
          clear HT1
          go_upto_region 9 with (fail)
          change Code.wp _ _ _ _ ((((((w6).setCell ⟨B, 0, none⟩ (.int .i64 53)).setCell ⟨B, 1, none⟩ (.int .i64 ak)).setCell ⟨B, 2, none⟩ (.int .i64 0)).setCell ⟨B, 3, none⟩ (.bool true)).setCell ⟨B, 4, none⟩ (.bool false))
          generalize (((((w6).setCell ⟨B, 0, none⟩ (.int .i64 53)).setCell ⟨B, 1, none⟩ (.int .i64 ak)).setCell ⟨B, 2, none⟩ (.int .i64 0)).setCell ⟨B, 3, none⟩ (.bool true)).setCell ⟨B, 4, none⟩ (.bool false) = w7 at *
          clear t0 t1 tf tl tb bb0 bb1 bb2 bb3 bb4 bf blt
          have HTAG : Bx (tagF l k = (some ak, 0, (ta, []))) := ⟨by unfold tagF; rw [hA]; simp only; rw [if_neg (by rw [hsg]; simp)]⟩
          clear hA hsg
          go_wp2_with (at_builtin; refine wpList_append_lies _ rfl _ _ 22 rfl (B + 1) 67 i0 (.agg #[.string ⟨#[]⟩, .string ⟨#[]⟩]) 2 32 Tryd.underlying22 HI0.out.1 HI0.out.2.1 HI0.out.2.2.1 HI0.out.2.2.2 rfl (by decide) v ts.length (tagC ts) rfl (HX.out.q.own.alloc _) ⟨w7.heap.size, 0, none⟩ 1 1 [strV ta, strV []] rfl rfl (news2 w7 _ _ _) (one2 _ _) (by decide) (by unfold maxLen; omega) (by omega) (by have := HX.out.q.blt; simp only [heap_push, Array.size_push]; omega) _ rfl ?_; intro g cap w9 hown hgrow hat hlt9; obtain ⟨o9, of9, olt9⟩ := (HX.out.q.step (below1 _ _)).far hgrow)
          exact round_fin HFF.out HTAG.out (fun _ => rfl) ((HX.out.q.step (below1 _ _)).push hown hgrow) HM.out hklt
        · have HX : Bx _ := ⟨HT1.bad none _ _ _ _ _ rfl⟩
          have x0 := HX.out.t 0 _ rfl
          have x1 := HX.out.t 1 _ rfl
          have xo := HX.out.q.o 1 _ rfl
          have xb0 := HX.out.q.b 0 _ rfl
          clear HT1
          go_upto_region 9 with (fail)
          change Code.wp _ _ _ _ ((((((w6).setCell ⟨B, 0, none⟩ (.int .i64 0)).setCell ⟨B, 1, none⟩ (.int .i64 0)).setCell ⟨B, 2, none⟩ (.int .i64 0)).setCell ⟨B, 3, none⟩ (.bool false)).setCell ⟨B, 4, none⟩ (.bool false))
          generalize (((((w6).setCell ⟨B, 0, none⟩ (.int .i64 0)).setCell ⟨B, 1, none⟩ (.int .i64 0)).setCell ⟨B, 2, none⟩ (.int .i64 0)).setCell ⟨B, 3, none⟩ (.bool false)).setCell ⟨B, 4, none⟩ (.bool false) = w7 at *
          clear t0 t1 tf tl tb bb0 bb1 bb2 bb3 bb4 bf blt
          have hal := (isR_lt hsg).2.1
          obtain ⟨C, hC⟩ : ∃ C, pcR l (ak + 1) none = C := ⟨_, rfl⟩
          obtain ⟨c0, c1, c2, d3, d4, hc0, hc1, hc2⟩ := bE_parts C.2.2
          have kp := fun w => rpiece_to l (ak + 1) w C c0 c1 c2 d3 d4 hC hc0 (by omega) hl
          rw [Int.natCast_succ] at kp
          have HTAG : Bx (tagF l k = (C.2.2, aN C, (ta, C.1))) := ⟨by
            unfold tagF
            rw [hA]
            simp only
            rw [if_pos hsg, hC]
            cases he : C.2.2 with
            | none => simp only; rw [aN_none he]
            | some p =>
              have := pcR_err (l := l) (k := ak + 1) (e := none) (p := p) (by rw [hC]; exact he)
              rw [hC] at this
              simp only
              rw [aN_some he, this]⟩
          have HCZ : Bx (C.2.2 ≠ none → aN C = 0) := ⟨fun h => by
            cases he : C.2.2 with
            | none => exact absurd he h
            | some p => exact aN_some he⟩
          generalize aN C = cz at *
          obtain ⟨ct, ck, ce⟩ := C
          simp only at hc0 hc1 hc2 kp
          clear hA hsg hC
          go_wp2_with fail
          refine (kp _).mono ?_
          rintro ev w8 ⟨rfl, h8⟩
          have HT1 := HX.out.step h8
          clear x0 x1 xo xb0 HX kp h8
          have t0 := HT1.t 0 _ rfl
          have t1 := HT1.t 1 _ rfl
          have tf := HT1.tf
          have tl := HT1.tl
          have tb := HT1.tb
          have bb0 := HT1.q.b 0 _ rfl
          have bb1 := HT1.q.b 1 _ rfl
          have bb2 := HT1.q.b 2 _ rfl
          have bb3 := HT1.q.b 3 _ rfl
          have bb4 := HT1.q.b 4 _ rfl
          have bf := fun i => HT1.q.f B i (by omega)
          have blt := HT1.q.blt
          have HX : Bx _ := ⟨(HT1.val ct).bad ce _ _ _ _ _ hc0⟩
          have x0 := HX.out.t 0 _ rfl
          have x1 := HX.out.t 1 _ rfl
          have xo := HX.out.q.o 1 _ rfl
          clear HT1
          go_upto_region 11 with (fail)
          change Code.wp _ _ _ _ ((((((w8.setCell ⟨T, 1, none⟩ (strV ct)).setCell ⟨B, 0, none⟩ (.int .i64 c0)).setCell ⟨B, 1, none⟩ (.int .i64 c1)).setCell ⟨B, 2, none⟩ (.int .i64 c2)).setCell ⟨B, 3, none⟩ (.bool d3)).setCell ⟨B, 4, none⟩ (.bool d4))
          generalize (((((w8.setCell ⟨T, 1, none⟩ (strV ct)).setCell ⟨B, 0, none⟩ (.int .i64 c0)).setCell ⟨B, 1, none⟩ (.int .i64 c1)).setCell ⟨B, 2, none⟩ (.int .i64 c2)).setCell ⟨B, 3, none⟩ (.bool d3)).setCell ⟨B, 4, none⟩ (.bool d4) = w10 at *
          clear t0 t1 tf tl tb bb0 bb1 bb2 bb3 bb4 bf blt
          go_wp2_with (at_builtin; refine wpList_append_lies _ rfl _ _ 22 rfl (B + 1) 67 i0 (.agg #[.string ⟨#[]⟩, .string ⟨#[]⟩]) 2 32 Tryd.underlying22 HI0.out.1 HI0.out.2.1 HI0.out.2.2.1 HI0.out.2.2.2 rfl (by decide) v ts.length (tagC ts) rfl (HX.out.q.own.alloc _) ⟨w10.heap.size, 0, none⟩ 1 1 [strV ta, strV ct] rfl rfl (news2 w10 _ _ _) (one2 _ _) (by decide) (by unfold maxLen; omega) (by omega) (by have := HX.out.q.blt; simp only [heap_push, Array.size_push]; omega) _ rfl ?_; intro g cap w9 hown hgrow hat hlt9; obtain ⟨o9, of9, olt9⟩ := (HX.out.q.step (below1 _ _)).far hgrow)
          exact round_fin HFF.out HTAG.out HCZ.out ((HX.out.q.step (below1 _ _)).push hown hgrow) HM.out hklt
end Go.Proofs.YtnpagnghnohmdaaDoor
