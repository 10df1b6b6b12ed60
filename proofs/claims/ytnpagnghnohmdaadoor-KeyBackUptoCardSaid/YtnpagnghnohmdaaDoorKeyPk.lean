/- The walk of the statement KeyBack. -/
import Derived.Test.YtnpagnghnohmdaaDoorKeyPj
set_option linter.unusedSimpArgs false
set_option linter.unusedVariables false
namespace Go.Proofs.YtnpagnghnohmdaaDoor
open Go.RowKit
theorem keyE_cases (K : Option Nat × Int) (h : 0 ≤ K.2) : (K = (none, 0) ∧ keyE K = .nilIface) ∨ (∃ T v, keyE K = .iface T v) := by
  obtain ⟨p, c⟩ := K
  cases p with
  | some p => exact .inr ⟨_, _, rfl⟩
  | none =>
    by_cases h0 : c = 0
    · subst h0; exact .inl ⟨rfl, rfl⟩
    · right
      have : 1 ≤ c := by simp only at h; omega
      exact ⟨_, _, eV_pos this⟩
theorem keyL_len (m f : List UInt8) (n : Nat) (tk tv : Nat → List UInt8) : (keyL m f n tk tv).length ≤ 1048576 := by
  unfold keyL
  split
  · rename_i h
    obtain ⟨h1, h2, h3, h4⟩ := series_ok h
    have := partP_len (n := n) (tk := tk) (tv := tv) h1 h4 n (Nat.le_refl _)
    have := (escL_len f).2
    simp only [List.length_append, List.length_cons, List.length_nil]
    omega
  · simp
theorem keyL_ne {m f : List UInt8} {n : Nat} {tk tv : Nat → List UInt8} (h : seriesC m f n tk tv = 0) : keyL m f n tk tv ≠ [] := by
  unfold keyL
  rw [if_pos h]
  simp
/-- the reader's series, tags by their places -/
theorem cmpS_to (m f : List UInt8) (n : Nat) (tk tv : Nat → List UInt8) : cmpS m n tk tv f m n (fun i => ((tagsTo tk tv n).getD i ([], [])).1) (fun i => ((tagsTo tk tv n).getD i ([], [])).2) f = 0 := by
  have hr : ∀ d k, k + d = n → rowL (fun i => ((tagsTo tk tv n).getD i ([], [])).1) (fun i => ((tagsTo tk tv n).getD i ([], [])).2) d k = rowL tk tv d k := by
    intro d
    induction d with
    | zero => intro k _; rfl
    | succ d ih =>
      intro k hk
      unfold rowL
      rw [ih (k + 1) (by omega), tagsTo_get tk tv (show k < n by omega)]
  rw [cmpS_ser, hr n 0 (by omega), ← cmpS_ser]
  exact cmpS_self m f n tk tv
theorem TagRow.setAny {w : World} {A : Option Addr} {n B i : Nat} {tk tv : Nat → List UInt8} (h : TagRow w A n tk tv) (u : Value) (hne : ∀ b off, A = some ⟨b, off, none⟩ → 0 < n → b ≠ B) : TagRow (w.setCell ⟨B, i, none⟩ u) A n tk tv where
  row := fun hn => by
    obtain ⟨b, off, e, hr⟩ := h.row hn
    have hb := hne b off e hn
    refine ⟨b, off, e, fun i hi => ?_⟩
    obtain ⟨h1, h2⟩ := hr i hi
    exact ⟨by rw [World.cell?_setCell_other _ _ _ _ (by intro e; injection e; omega)]; exact h1, by rw [World.cell?_setCell_other _ _ _ _ (by intro e; injection e; omega)]; exact h2⟩
  len := h.len
/-- a row of tags lies in no series' box -/
theorem row_ne {w : World} {R n N c : Nat} {A A1 : Option Addr} {m f : List UInt8} {tk tv : Nat → List UInt8} (h : TagRow w A n tk tv) (hc : CA w R [strV m, .slice A1 N c, strV f]) (hn : ∀ i, 3 ≤ i → w.cell? ⟨R, i, none⟩ = none) : ∀ b off, A = some ⟨b, off, none⟩ → 0 < n → b ≠ R := by
  rintro b off rfl hp rfl
  obtain ⟨b', off', e, hr⟩ := h.row hp
  injection e with e
  injection e with e1 e2
  subst e1 e2
  obtain ⟨h1, h2⟩ := hr 0 hp
  rw [show off + 0 * 2 = off by omega] at h1 h2
  rcases (show off = 0 ∨ off = 1 ∨ off = 2 ∨ 3 ≤ off by omega) with rfl | rfl | rfl | h3
  · have := hc 1 _ rfl; rw [this] at h2; simp at h2
  · have := hc 1 _ rfl; rw [this] at h1; simp at h1
  · have := hn 3 (by omega); rw [this] at h2; cases h2
  · have := hn off h3; rw [this] at h1; cases h1
set_option maxHeartbeats 8000000 in
set_option maxRecDepth 100000 in
theorem kback_ok (m f : List UInt8) (A : Option Addr) (n cap : Nat) (tk tv : Nat → List UInt8) (s : List UInt8) (w : World) (hr : SerIn w m f A n tk tv) (hs : s.length ≤ 1048576) (hG : GlobK w) (hc : seriesC m f n tk tv = 0) :
    Calls Tryd.prog 10 #[.agg #[strV m, .slice A n cap, strV f], strV s] w fun e w' => e = .returned (.bool true) ∧ Below w.heap.size w w' := by
  have HGK : Bx (GlobK w) := ⟨hG⟩
  have HR : Bx _ := ⟨hr⟩
  have k1 := fun w h hG => kprint_any m f A n cap tk tv w h hG
  have k2 := fun w hG => parse_to (keyL m f n tk tv) w (keyL_len _ _ _ _ _) hG
  have k3 := fun w h hG => series_any m f A n cap tk tv w h hG
  have k5 := fun w hG => parse_to s w hs hG
  have hne : keyL m f n tk tv ≠ [] := keyL_ne hc
  have hx1 : (keyL m f n tk tv == []) = false := by simpa using hne
  have hx2 : (keyL m f n tk tv).isEmpty = false := by simpa using hne
  obtain ⟨hk, hse⟩ := key_back hc
  unfold ParV at k2
  rw [hk, hse] at k2
  simp only at k2
  have k4 := fun A2 c2 w h1 h2 => rsame_any m f A n cap tk tv m f A2 (tagsTo tk tv n).length c2 (fun i => ((tagsTo tk tv n).getD i ([], [])).1) (fun i => ((tagsTo tk tv n).getD i ([], [])).2) w h1 h2
  have hcm := cmpS_to m f n tk tv
  rw [show cmpS m n tk tv f m (tagsTo tk tv n).length (fun i => ((tagsTo tk tv n).getD i ([], [])).1) (fun i => ((tagsTo tk tv n).getD i ([], [])).2) f = 0 by rw [tagsTo_len]; exact hcm] at k4
  rw [hc] at k3
  have hE1 : keyE (none, 0) = .nilIface := rfl
  rw [hE1] at k2
  generalize (tagsTo tk tv n).length = n1 at *
  generalize hK : (fun i => ((tagsTo tk tv n).getD i ([], [])).1) = tk1 at *
  generalize hV : (fun i => ((tagsTo tk tv n).getD i ([], [])).2) = tv1 at *
  generalize keyL m f n tk tv = X at *
  clear hne hk hse hcm hK hV hE1
  have hp2 := kindF_pos s
  have hfo := key_forth (s := s)
  unfold ParV at k5
  have HFO : Bx _ := ⟨hfo⟩
  have hkc := keyE_cases (kindF s) hp2
  generalize hKF : kindF s = K2 at *
  have HKF : Bx _ := ⟨hKF⟩
  generalize (serF s).1 = m2 at *
  generalize (serF s).2.2 = f2 at *
  generalize (serF s).2.1.length = n2 at *
  generalize (fun i => ((serF s).2.1.getD i ([], [])).1) = tk2 at *
  generalize (fun i => ((serF s).2.1.getD i ([], [])).2) = tv2 at *
  generalize keyE K2 = E2 at *
  clear hfo hr hG hs hp2 hKF
  have ca0 := CA.alloc w [strV m, .slice A n cap, strV f] 24
  have hb0 := below1 w (.cells #[strV m, .slice A n cap, strV f] 24)
  go_enter Tryd.func10, Tryd.ntmps10
  go_wp2_with fail
  change Calls _ _ _ (w.alloc (.cells #[strV m, .slice A n cap, strV f] 24)) _
  change CA (w.alloc (.cells #[strV m, .slice A n cap, strV f] 24)) _ _ at ca0
  generalize (w.alloc (.cells #[strV m, .slice A n cap, strV f] 24)) = w0 at *
  refine (k1 _ (HR.out.below hb0) (HGK.out.below hb0)).mono ?_
  rintro ev w1 ⟨rfl, h1⟩
  have ca1 := ca0.grown (grown_below h1 none) (by simp)
  have hb1 := hb0.trans (h1.mono hb0.size)
  clear ca0 hb0 h1 k1
  go_wp2_with fail
  refine (k2 _ (HGK.out.below hb1)).mono ?_
  rintro ev w2 ⟨⟨A1, c1, rfl, hs1⟩, h2⟩
  have ca2 := (ca1.grown (grown_below h2 none) (by simp)).grown (grown_below (below1 w2 (.cells #[strV m, .slice A1 n1 c1, strV f] 24)) none) (by simp)
  have cb2 := CA.alloc w2 [strV m, .slice A1 n1 c1, strV f] 24
  have hb2 := (hb1.trans (h2.mono hb1.size)).trans ((below1 w2 (.cells #[strV m, .slice A1 n1 c1, strV f] 24)).mono (by have := hb1.size; have := h2.size; omega))
  have hf2 : ∀ i, (w2.alloc (.cells #[strV m, .slice A1 n1 c1, strV f] 24)).frozen? ⟨w2.heap.size, i, none⟩ = false := fun i => World.frozen?_alloc_at _ _ _ _ rfl
  have hn2 : ∀ i, 3 ≤ i → (w2.alloc (.cells #[strV m, .slice A1 n1 c1, strV f] 24)).cell? ⟨w2.heap.size, i, none⟩ = none := fun i hi => by rw [World.cell?_alloc_at _ _ _ _ rfl]; simp; omega
  have hs2 := hs1.below (below1 w2 (.cells #[strV m, .slice A1 n1 c1, strV f] 24))
  have hlt2 : w2.heap.size < (w2.alloc (.cells #[strV m, .slice A1 n1 c1, strV f] 24)).heap.size := by simp
  have hRS : w.heap.size ≤ w2.heap.size := Nat.le_trans hb1.size h2.size
  change CA (w2.alloc (.cells #[strV m, .slice A1 n1 c1, strV f] 24)) _ _ at cb2
  clear ca1 hb1 h2 hs1 k2
  go_upto_region 3 with (fail)
  change Code.wp _ _ _ _ (w2.alloc (.cells #[strV m, .slice A1 n1 c1, strV f] 24))
  generalize (w2.alloc (.cells #[strV m, .slice A1 n1 c1, strV f] 24)) = w3 at *
  generalize w2.heap.size = R at *
  have x0 := ca2 0 _ rfl
  have x1 := ca2 1 _ rfl
  have x2 := ca2 2 _ rfl
  go_wp2_with fail
  refine (k3 _ (HR.out.below hb2) (HGK.out.below hb2)).mono ?_
  rintro ev w4 ⟨rfl, h4⟩
  have ca4 := ca2.grown (grown_below h4 none) (by simp)
  have cb4 := cb2.grown (grown_below h4 none) (by simp)
  have hb4 := hb2.trans (h4.mono hb2.size)
  have hs4 := hs2.below h4
  have hn4 : ∀ i, 3 ≤ i → w4.cell? ⟨R, i, none⟩ = none := fun i hi => by rw [h4.cell (p := ⟨R, i, none⟩) hlt2]; exact hn2 i hi
  have hf4 : ∀ i, w4.frozen? ⟨R, i, none⟩ = false := fun i => by rw [h4.frozen (p := ⟨R, i, none⟩) hlt2]; exact hf2 i
  have hlt4 : R < w4.heap.size := Nat.lt_of_lt_of_le hlt2 h4.size
  clear ca2 cb2 hb2 hs2 hf2 hn2 hlt2 h4 k3 x0 x1 x2
  simp only [eV_zero]
  have x0 := ca4 0 _ rfl
  have x1 := ca4 1 _ rfl
  have x2 := ca4 2 _ rfl
  have y0 := cb4 0 _ rfl
  have y1 := cb4 1 _ rfl
  have y2 := cb4 2 _ rfl
  go_wp2_with fail
  refine (k4 _ _ _ (HR.out.below hb4) hs4).mono ?_
  rintro ev w5 ⟨rfl, h5⟩
  have cb5 := cb4.grown (grown_below h5 none) (by simp)
  have hb5 := hb4.trans (h5.mono hb4.size)
  have hf5 : ∀ i, w5.frozen? ⟨R, i, none⟩ = false := fun i => by rw [h5.frozen (p := ⟨R, i, none⟩) hlt4]; exact hf4 i
  have hn5 : ∀ i, 3 ≤ i → w5.cell? ⟨R, i, none⟩ = none := fun i hi => by rw [h5.cell (p := ⟨R, i, none⟩) hlt4]; exact hn4 i hi
  have hlt5 : R < w5.heap.size := Nat.lt_of_lt_of_le hlt4 h5.size
  clear ca4 cb4 hb4 hs4 hf4 hn4 hlt4 h5 k4 x0 x1 x2 y0 y1 y2 hc
  go_wp2_with fail
  refine (k5 _ (HGK.out.below hb5)).mono ?_
  rintro ev w6 ⟨⟨A2, c2, rfl, hs6⟩, h6⟩
  have cb6 := cb5.grown (grown_below h6 none) (by simp)
  have hb6 := hb5.trans (h6.mono hb5.size)
  have hf6 : ∀ i, w6.frozen? ⟨R, i, none⟩ = false := fun i => by rw [h6.frozen (p := ⟨R, i, none⟩) hlt5]; exact hf5 i
  have hlt6 : R < w6.heap.size := Nat.lt_of_lt_of_le hlt5 h6.size
  have y0 := cb6 0 _ rfl
  have y1 := cb6 1 _ rfl
  have y2 := cb6 2 _ rfl
  have hn6 : ∀ i, 3 ≤ i → w6.cell? ⟨R, i, none⟩ = none := fun i hi => by rw [h6.cell (p := ⟨R, i, none⟩) hlt5]; exact hn5 i hi
  have hrn := row_ne hs6.row cb6 hn6
  have cb7 := ((cb6.set (i := 0) (strV m2) (by simp)).set (i := 1) (.slice A2 n2 c2) (by simp)).set (i := 2) (strV f2) (by simp)
  have hb7 := ((hb6.setCell (p := ⟨R, 0, none⟩) hRS (strV m2)).setCell (p := ⟨R, 1, none⟩) hRS (.slice A2 n2 c2)).setCell (p := ⟨R, 2, none⟩) hRS (strV f2)
  have hs7 : SerIn (((w6.setCell ⟨R, 0, none⟩ (strV m2)).setCell ⟨R, 1, none⟩ (.slice A2 n2 c2)).setCell ⟨R, 2, none⟩ (strV f2)) m2 f2 A2 n2 tk2 tv2 := ⟨((hs6.row.setAny _ hrn).setAny _ hrn).setAny _ hrn, hs6.m, hs6.f, hs6.n⟩
  change CA _ R [strV m2, .slice A2 n2 c2, strV f2] at cb7
  clear cb5 hb5 hf5 hn5 hlt5 h6 k5 cb6 hn6 hrn hs6 hb6
  go_upto_region 6 with (fail)
  change Code.wp _ _ _ _ (((w6.setCell ⟨R, 0, none⟩ (strV m2)).setCell ⟨R, 1, none⟩ (.slice A2 n2 c2)).setCell ⟨R, 2, none⟩ (strV f2))
  generalize ((w6.setCell ⟨R, 0, none⟩ (strV m2)).setCell ⟨R, 1, none⟩ (.slice A2 n2 c2)).setCell ⟨R, 2, none⟩ (strV f2) = w7 at *
  clear y0 y1 y2 hf6 hlt6
  go_wp2_with fail
  refine (live_any _ (HGK.out.below hb7)).mono ?_
  rintro ev w8 ⟨rfl, h8⟩
  have cb8 := cb7.grown (grown_below h8 none) (by simp)
  have hb8 := hb7.trans (h8.mono hb7.size)
  have hs8 := hs7.below h8
  clear cb7 hb7 hs7 h8
  rcases hkc with ⟨hk0, rfl⟩ | ⟨T, v, rfl⟩
  · obtain ⟨hc0, hkl⟩ := HFO.out hk0
    have k6 := kprint_any m2 f2 A2 n2 c2 tk2 tv2 w8 hs8 (HGK.out.below hb8)
    rw [hkl] at k6
    have k7 := fun w h hG => series_any m2 f2 A2 n2 c2 tk2 tv2 w h hG
    rw [hc0] at k7
    have y0 := cb8 0 _ rfl
    have y1 := cb8 1 _ rfl
    have y2 := cb8 2 _ rfl
    clear hk0 hc0 hkl
    go_wp2_with fail
    refine k6.mono ?_
    rintro ev w9 ⟨rfl, h9⟩
    have cb9 := cb8.grown (grown_below h9 none) (by simp)
    have hb9 := hb8.trans (h9.mono hb8.size)
    have hs9 := hs8.below h9
    clear cb8 hb8 hs8 h9 y0 y1 y2 k6
    have y0 := cb9 0 _ rfl
    have y1 := cb9 1 _ rfl
    have y2 := cb9 2 _ rfl
    go_wp2_with fail
    refine (k7 _ hs9 (HGK.out.below hb9)).mono ?_
    rintro ev w10 ⟨rfl, h10⟩
    have HF : Bx (Below w.heap.size w w10) := ⟨hb9.trans (h10.mono hb9.size)⟩
    clear cb9 hb9 hs9 h10 y0 y1 y2 k7
    simp only [eV_zero]
    go_wp2
    go_ret
    exact ⟨rfl, HF.out⟩
  · have HF : Bx (Below w.heap.size w w8) := ⟨hb8⟩
    clear cb8 hb8 hs8
    go_wp2
    go_ret
    exact ⟨rfl, HF.out⟩
set_option maxHeartbeats 8000000 in
set_option maxRecDepth 100000 in
theorem kback_bad (m f : List UInt8) (A : Option Addr) (n cap : Nat) (tk tv : Nat → List UInt8) (s : List UInt8) (w : World) (hr : SerIn w m f A n tk tv) (hs : s.length ≤ 1048576) (hG : GlobK w) (hc : ¬ seriesC m f n tk tv = 0) :
    Calls Tryd.prog 10 #[.agg #[strV m, .slice A n cap, strV f], strV s] w fun e w' => e = .returned (.bool true) ∧ Below w.heap.size w w' := by
  have HGK : Bx (GlobK w) := ⟨hG⟩
  have HR : Bx _ := ⟨hr⟩
  have k1 := fun w h hG => kprint_any m f A n cap tk tv w h hG
  have k2 := fun w hG => parse_to (keyL m f n tk tv) w (keyL_len _ _ _ _ _) hG
  have k3 := fun w h hG => series_any m f A n cap tk tv w h hG
  have k5 := fun w hG => parse_to s w hs hG
  have hX : keyL m f n tk tv = [] := by unfold keyL; rw [if_neg hc]
  rw [hX] at k1 k2
  clear hX
  unfold ParV at k2
  have hcp := seriesC_pos m f n tk tv
  generalize seriesC m f n tk tv = c at *
  have hc1 : 1 ≤ c := by omega
  generalize keyE (kindF []) = E1 at *
  generalize (serF []).1 = m1 at *
  generalize (serF []).2.2 = f1 at *
  generalize (serF []).2.1.length = n1 at *
  generalize (fun i => ((serF []).2.1.getD i ([], [])).1) = tk1 at *
  generalize (fun i => ((serF []).2.1.getD i ([], [])).2) = tv1 at *
  simp only [eV_pos hc1] at k3
  have hp2 := kindF_pos s
  have hfo := key_forth (s := s)
  unfold ParV at k5
  have HFO : Bx _ := ⟨hfo⟩
  have hkc := keyE_cases (kindF s) hp2
  generalize hKF : kindF s = K2 at *
  have HKF : Bx _ := ⟨hKF⟩
  generalize (serF s).1 = m2 at *
  generalize (serF s).2.2 = f2 at *
  generalize (serF s).2.1.length = n2 at *
  generalize (fun i => ((serF s).2.1.getD i ([], [])).1) = tk2 at *
  generalize (fun i => ((serF s).2.1.getD i ([], [])).2) = tv2 at *
  generalize keyE K2 = E2 at *
  clear hfo hr hG hs hp2 hKF
  have ca0 := CA.alloc w [strV m, .slice A n cap, strV f] 24
  have hb0 := below1 w (.cells #[strV m, .slice A n cap, strV f] 24)
  go_enter Tryd.func10, Tryd.ntmps10
  go_wp2_with fail
  change Calls _ _ _ (w.alloc (.cells #[strV m, .slice A n cap, strV f] 24)) _
  change CA (w.alloc (.cells #[strV m, .slice A n cap, strV f] 24)) _ _ at ca0
  generalize (w.alloc (.cells #[strV m, .slice A n cap, strV f] 24)) = w0 at *
  refine (k1 _ (HR.out.below hb0) (HGK.out.below hb0)).mono ?_
  rintro ev w1 ⟨rfl, h1⟩
  have ca1 := ca0.grown (grown_below h1 none) (by simp)
  have hb1 := hb0.trans (h1.mono hb0.size)
  clear ca0 hb0 h1 k1
  go_wp2_with fail
  refine (k2 _ (HGK.out.below hb1)).mono ?_
  rintro ev w2 ⟨⟨A1, c1, rfl, hs1⟩, h2⟩
  have ca2 := (ca1.grown (grown_below h2 none) (by simp)).grown (grown_below (below1 w2 (.cells #[strV m1, .slice A1 n1 c1, strV f1] 24)) none) (by simp)
  have cb2 := CA.alloc w2 [strV m1, .slice A1 n1 c1, strV f1] 24
  have hb2 := (hb1.trans (h2.mono hb1.size)).trans ((below1 w2 (.cells #[strV m1, .slice A1 n1 c1, strV f1] 24)).mono (by have := hb1.size; have := h2.size; omega))
  have hf2 : ∀ i, (w2.alloc (.cells #[strV m1, .slice A1 n1 c1, strV f1] 24)).frozen? ⟨w2.heap.size, i, none⟩ = false := fun i => World.frozen?_alloc_at _ _ _ _ rfl
  have hn2 : ∀ i, 3 ≤ i → (w2.alloc (.cells #[strV m1, .slice A1 n1 c1, strV f1] 24)).cell? ⟨w2.heap.size, i, none⟩ = none := fun i hi => by rw [World.cell?_alloc_at _ _ _ _ rfl]; simp; omega
  have hs2 := hs1.below (below1 w2 (.cells #[strV m1, .slice A1 n1 c1, strV f1] 24))
  have hlt2 : w2.heap.size < (w2.alloc (.cells #[strV m1, .slice A1 n1 c1, strV f1] 24)).heap.size := by simp
  have hRS : w.heap.size ≤ w2.heap.size := Nat.le_trans hb1.size h2.size
  change CA (w2.alloc (.cells #[strV m1, .slice A1 n1 c1, strV f1] 24)) _ _ at cb2
  clear ca1 hb1 h2 hs1 k2
  go_upto_region 3 with (fail)
  change Code.wp _ _ _ _ (w2.alloc (.cells #[strV m1, .slice A1 n1 c1, strV f1] 24))
  generalize (w2.alloc (.cells #[strV m1, .slice A1 n1 c1, strV f1] 24)) = w3 at *
  generalize w2.heap.size = R at *
  have x0 := ca2 0 _ rfl
  have x1 := ca2 1 _ rfl
  have x2 := ca2 2 _ rfl
  go_wp2_with fail
  refine (k3 _ (HR.out.below hb2) (HGK.out.below hb2)).mono ?_
  rintro ev w4 ⟨rfl, h4⟩
  have ca4 := ca2.grown (grown_below h4 none) (by simp)
  have cb4 := cb2.grown (grown_below h4 none) (by simp)
  have hb4 := hb2.trans (h4.mono hb2.size)
  have hs4 := hs2.below h4
  have hn4 : ∀ i, 3 ≤ i → w4.cell? ⟨R, i, none⟩ = none := fun i hi => by rw [h4.cell (p := ⟨R, i, none⟩) hlt2]; exact hn2 i hi
  have hf4 : ∀ i, w4.frozen? ⟨R, i, none⟩ = false := fun i => by rw [h4.frozen (p := ⟨R, i, none⟩) hlt2]; exact hf2 i
  have hlt4 : R < w4.heap.size := Nat.lt_of_lt_of_le hlt2 h4.size
  clear ca2 cb2 hb2 hs2 hf2 hn2 hlt2 h4 k3 x0 x1 x2
  have cb5 := cb4
  have hb5 := hb4
  have hf5 := hf4
  have hn5 := hn4
  have hlt5 := hlt4
  clear ca4 cb4 hb4 hs4 hf4 hn4 hlt4 hc hc1 hcp
  go_wp2_with fail
  refine (k5 _ (HGK.out.below hb5)).mono ?_
  rintro ev w6 ⟨⟨A2, c2, rfl, hs6⟩, h6⟩
  have cb6 := cb5.grown (grown_below h6 none) (by simp)
  have hb6 := hb5.trans (h6.mono hb5.size)
  have hf6 : ∀ i, w6.frozen? ⟨R, i, none⟩ = false := fun i => by rw [h6.frozen (p := ⟨R, i, none⟩) hlt5]; exact hf5 i
  have hlt6 : R < w6.heap.size := Nat.lt_of_lt_of_le hlt5 h6.size
  have y0 := cb6 0 _ rfl
  have y1 := cb6 1 _ rfl
  have y2 := cb6 2 _ rfl
  have hn6 : ∀ i, 3 ≤ i → w6.cell? ⟨R, i, none⟩ = none := fun i hi => by rw [h6.cell (p := ⟨R, i, none⟩) hlt5]; exact hn5 i hi
  have hrn := row_ne hs6.row cb6 hn6
  have cb7 := ((cb6.set (i := 0) (strV m2) (by simp)).set (i := 1) (.slice A2 n2 c2) (by simp)).set (i := 2) (strV f2) (by simp)
  have hb7 := ((hb6.setCell (p := ⟨R, 0, none⟩) hRS (strV m2)).setCell (p := ⟨R, 1, none⟩) hRS (.slice A2 n2 c2)).setCell (p := ⟨R, 2, none⟩) hRS (strV f2)
  have hs7 : SerIn (((w6.setCell ⟨R, 0, none⟩ (strV m2)).setCell ⟨R, 1, none⟩ (.slice A2 n2 c2)).setCell ⟨R, 2, none⟩ (strV f2)) m2 f2 A2 n2 tk2 tv2 := ⟨((hs6.row.setAny _ hrn).setAny _ hrn).setAny _ hrn, hs6.m, hs6.f, hs6.n⟩
  change CA _ R [strV m2, .slice A2 n2 c2, strV f2] at cb7
  clear cb5 hb5 hf5 hn5 hlt5 h6 k5 cb6 hn6 hrn hs6 hb6
  go_upto_region 6 with (fail)
  change Code.wp _ _ _ _ (((w6.setCell ⟨R, 0, none⟩ (strV m2)).setCell ⟨R, 1, none⟩ (.slice A2 n2 c2)).setCell ⟨R, 2, none⟩ (strV f2))
  generalize ((w6.setCell ⟨R, 0, none⟩ (strV m2)).setCell ⟨R, 1, none⟩ (.slice A2 n2 c2)).setCell ⟨R, 2, none⟩ (strV f2) = w7 at *
  clear y0 y1 y2 hf6 hlt6
  go_wp2_with fail
  refine (live_any _ (HGK.out.below hb7)).mono ?_
  rintro ev w8 ⟨rfl, h8⟩
  have cb8 := cb7.grown (grown_below h8 none) (by simp)
  have hb8 := hb7.trans (h8.mono hb7.size)
  have hs8 := hs7.below h8
  clear cb7 hb7 hs7 h8
  rcases hkc with ⟨hk0, rfl⟩ | ⟨T, v, rfl⟩
  · obtain ⟨hc0, hkl⟩ := HFO.out hk0
    have k6 := kprint_any m2 f2 A2 n2 c2 tk2 tv2 w8 hs8 (HGK.out.below hb8)
    rw [hkl] at k6
    have k7 := fun w h hG => series_any m2 f2 A2 n2 c2 tk2 tv2 w h hG
    rw [hc0] at k7
    have y0 := cb8 0 _ rfl
    have y1 := cb8 1 _ rfl
    have y2 := cb8 2 _ rfl
    clear hk0 hc0 hkl
    go_wp2_with fail
    refine k6.mono ?_
    rintro ev w9 ⟨rfl, h9⟩
    have cb9 := cb8.grown (grown_below h9 none) (by simp)
    have hb9 := hb8.trans (h9.mono hb8.size)
    have hs9 := hs8.below h9
    clear cb8 hb8 hs8 h9 y0 y1 y2 k6
    have y0 := cb9 0 _ rfl
    have y1 := cb9 1 _ rfl
    have y2 := cb9 2 _ rfl
    go_wp2_with fail
    refine (k7 _ hs9 (HGK.out.below hb9)).mono ?_
    rintro ev w10 ⟨rfl, h10⟩
    have HF : Bx (Below w.heap.size w w10) := ⟨hb9.trans (h10.mono hb9.size)⟩
    clear cb9 hb9 hs9 h10 y0 y1 y2 k7
    simp only [eV_zero]
    go_wp2
    go_ret
    exact ⟨rfl, HF.out⟩
  · have HF : Bx (Below w.heap.size w w8) := ⟨hb8⟩
    clear cb8 hb8 hs8
    go_wp2
    go_ret
    exact ⟨rfl, HF.out⟩
theorem kback_any (m f : List UInt8) (A : Option Addr) (n cap : Nat) (tk tv : Nat → List UInt8) (s : List UInt8) (w : World) (hr : SerIn w m f A n tk tv) (hs : s.length ≤ 1048576) (hG : GlobK w) :
    Calls Tryd.prog 10 #[.agg #[strV m, .slice A n cap, strV f], strV s] w fun e w' => e = .returned (.bool true) ∧ Below w.heap.size w w' := by
  by_cases hc : seriesC m f n tk tv = 0
  · exact kback_ok m f A n cap tk tv s w hr hs hG hc
  · exact kback_bad m f A n cap tk tv s w hr hs hG hc

end Go.Proofs.YtnpagnghnohmdaaDoor
