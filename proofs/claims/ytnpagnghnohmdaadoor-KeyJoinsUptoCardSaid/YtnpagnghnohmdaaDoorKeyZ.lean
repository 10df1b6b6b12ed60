/- kept; the walk of the statement KeyRights. -/
import Derived.Test.YtnpagnghnohmdaaDoorKeyX
set_option linter.unusedSimpArgs false
set_option linter.unusedVariables false
namespace Go.Proofs.YtnpagnghnohmdaaDoor
open Go.RowKit
theorem cmpFrom_self (k v : Nat → List UInt8) (n : Nat) : ∀ f i, cmpFrom k v k v n n f i = 0 := by
  have hz : ∀ l, cmpL l l = 0 := fun l => by
    have := cmpL_good.anti l l
    omega
  intro f
  induction f with
  | zero => intro i; unfold cmpFrom; rw [if_neg (by omega), if_neg (by omega)]
  | succ f ih => intro i; unfold cmpFrom; rw [if_pos (hz _), if_pos (hz _)]; exact ih _
theorem cmpT_self (k v : Nat → List UInt8) (n : Nat) : cmpT k v k v n n = 0 := cmpFrom_self k v n _ _
theorem sametags_any (A1 A2 : Option Addr) (n1 c1 n2 c2 : Nat) (k1 v1 k2 v2 : Nat → List UInt8) (w : World) (h1 : TagRow w A1 n1 k1 v1) (h2 : TagRow w A2 n2 k2 v2) (hn1 : n1 ≤ 9223372036854775807) (hn2 : n2 ≤ 9223372036854775807) :
    Calls Tryd.prog 38 #[.slice A1 n1 c1, .slice A2 n2 c2] w fun e w' => e = .returned (.bool (cmpT k1 v1 k2 v2 n1 n2 == 0)) ∧ Below w.heap.size w w' := by
  have kc := ctags_any A1 A2 n1 c1 n2 c2 k1 v1 k2 v2 w h1 h2 hn1 hn2
  generalize cmpT k1 v1 k2 v2 n1 n2 = C at *
  clear h1 h2 hn1 hn2
  go_enter Tryd.func38, Tryd.ntmps38
  go_wp2_with fail
  refine kc.mono ?_
  rintro e w1 ⟨rfl, hb⟩
  go_wp2
  go_ret
  exact ⟨rfl, hb⟩
set_option maxHeartbeats 4000000 in
set_option maxRecDepth 100000 in
theorem kept_any (A : Option Addr) (n cap M capm : Nat) (tk tv : Nat → List UInt8) (w : World) (hr : TagRow w A n tk tv) (hm : TagRow w (some ⟨M, 0, none⟩) n tk tv) (c0 : w.cell? ⟨M, n * 2, none⟩ = some (strV markL)) (c1 : w.cell? ⟨M, n * 2 + 1, none⟩ = some (strV [])) (hcap : n + 1 ≤ capm) (hn : n * 32 ≤ 140737488351232) :
    Calls Tryd.prog 26 #[.slice (some ⟨M, 0, none⟩) n capm, .slice A n cap] w fun e w' => e = .returned (.bool true) ∧ Below w.heap.size w w' := by
  have kc := sametags_any (some ⟨M, 0, none⟩) A n capm n cap tk tv tk tv w hm hr (by omega) (by omega)
  rw [cmpT_self] at kc
  have l0 := cell_lt c0
  clear hr hm
  go_enter Tryd.func26, Tryd.ntmps26
  go_wp2_with fail
  refine kc.mono ?_
  rintro e w1 ⟨rfl, hb⟩
  have d0 : w1.cell? ⟨M, n * 2, none⟩ = some (strV markL) := by rw [hb.cell (p := ⟨M, n * 2, none⟩) l0]; exact c0
  have d1 : w1.cell? ⟨M, n * 2 + 1, none⟩ = some (strV []) := by rw [hb.cell (p := ⟨M, n * 2 + 1, none⟩) l0]; exact c1
  clear c0 c1 kc
  go_wp2
  go_ret
  exact ⟨rfl, hb⟩
/-- Same, of what the program and the document tell of one number -/
theorem same_C (c : Int) (w : World) (hG : GlobK w) (hc : 0 ≤ c) :
    Calls Tryd.prog 17 #[eV c, badV c] w fun e w' => e = .returned (.bool true) ∧ Below w.heap.size w w' := by
  by_cases h : c = 0
  · subst h; exact same_nil w
  · rw [eV_pos (by omega)]; exact same_E c w hG.g (by omega)
theorem nameC_pos (l : List UInt8) : 0 ≤ nameC l := by unfold nameC; split <;> omega
theorem textC_pos (l : List UInt8) : 0 ≤ textC l := by unfold textC; split <;> omega
theorem tagsC_pos (n : Nat) (tk tv : Nat → List UInt8) : 0 ≤ tagsC n tk tv := by unfold tagsC; split <;> omega
theorem seriesC_pos (m f : List UInt8) (n : Nat) (tk tv : Nat → List UInt8) : 0 ≤ seriesC m f n tk tv := by
  have := nameC_pos m
  have := tagsC_pos n tk tv
  unfold seriesC
  repeat' split <;> omega
theorem TagRow.set {w : World} {M n B i : Nat} {tk tv : Nat → List UInt8} (h : TagRow w (some ⟨M, 0, none⟩) n tk tv) (u : Value) (hne : M ≠ B) : TagRow (w.setCell ⟨B, i, none⟩ u) (some ⟨M, 0, none⟩) n tk tv where
  row := fun hn => by
    obtain ⟨b, off, e, hr⟩ := h.row hn
    refine ⟨b, off, e, fun i hi => ?_⟩
    injection e with e
    injection e with e1 e2
    obtain ⟨h1, h2⟩ := hr i hi
    exact ⟨by rw [World.cell?_setCell_other _ _ _ _ (by intro e; injection e; omega)]; exact h1, by rw [World.cell?_setCell_other _ _ _ _ (by intro e; injection e; omega)]; exact h2⟩
  len := h.len
set_option maxHeartbeats 8000000 in
set_option maxRecDepth 100000 in
theorem rights_any (t m f : List UInt8) (A : Option Addr) (n cap : Nat) (tk tv : Nat → List UInt8) (w : World) (ht : t.length ≤ 9223372036854775807) (hr : SerIn w m f A n tk tv) (hn : n * 32 ≤ 140737488351232) (hA : A = none → n = 0 ∧ cap = 0) (hG : GlobK w) :
    Calls Tryd.prog 4 #[strV t, .agg #[strV m, .slice A n cap, strV f]] w fun e w' => e = .returned (.bool true) ∧ Below w.heap.size w w' := by
  have HR : Bx _ := ⟨hr⟩
  have HGK : Bx (GlobK w) := ⟨hG⟩
  have kl : ∀ x, Below w.heap.size w x → Calls Tryd.prog 16 #[.slice A n cap] x _ := fun x hb => lent_any A n cap tk tv x (hr.row.below hb) hn hA
  go_enter Tryd.func4, Tryd.ntmps4
  go_wp2_with fail
  have HP0 := PBX.fresh w m f m f (.slice A n cap) (.slice A n cap) 24
  have hfz : ((w.alloc (.cells #[strV m, .slice A n cap, strV f] 24)).alloc (.cells #[strV m, .slice A n cap, strV f] 24)).frozen? ⟨w.heap.size + 1, 1, none⟩ = false := by simp
  have hsz : ((w.alloc (.cells #[strV m, .slice A n cap, strV f] 24)).alloc (.cells #[strV m, .slice A n cap, strV f] 24)).heap.size = w.heap.size + 2 := by simp
  have kl1 := kl _ (below2 w (.cells #[strV m, .slice A n cap, strV f] 24) (.cells #[strV m, .slice A n cap, strV f] 24))
  change Calls _ _ _ ((w.alloc (.cells #[strV m, .slice A n cap, strV f] 24)).alloc (.cells #[strV m, .slice A n cap, strV f] 24)) _
  generalize (w.alloc (.cells #[strV m, .slice A n cap, strV f] 24)).alloc (.cells #[strV m, .slice A n cap, strV f] 24) = w1 at *
  generalize hS : w.heap.size = S at *
  have HS : Bx (w.heap.size = S) := ⟨hS⟩
  clear hS kl
  refine kl1.mono ?_
  rintro e w2 ⟨M, capm, rfl, HL⟩
  have HP2 := HP0.step HL.below
  have hf2 : w2.frozen? ⟨S + 1, 1, none⟩ = false := by rw [HL.below.frozen (p := ⟨S + 1, 1, none⟩) (by show S + 1 < _; omega)]; exact hfz
  have hM : S + 2 ≤ M := by have := HL.base; omega
  have hML := HL.lt
  have HLB : Bx _ := ⟨HL⟩
  have HPB : Bx _ := ⟨HP2⟩
  have HN : Bx (n * 32 ≤ 140737488351232 ∧ n + 1 ≤ capm) := ⟨hn, HL.cap⟩
  obtain ⟨a0, a1, a2, b0, b1, b2, hB⟩ := HP2
  have z0 : (w2.setCell ⟨S + 1, 1, none⟩ (.slice (some ⟨M, 0, none⟩) n capm)).cell? ⟨S + 1, 0, none⟩ = some (strV m) := cell_set_ne b0 (by omega)
  have z1 : (w2.setCell ⟨S + 1, 1, none⟩ (.slice (some ⟨M, 0, none⟩) n capm)).cell? ⟨S + 1, 1, none⟩ = some (.slice (some ⟨M, 0, none⟩) n capm) := cell_set_eq b1
  have z2 : (w2.setCell ⟨S + 1, 1, none⟩ (.slice (some ⟨M, 0, none⟩) n capm)).cell? ⟨S + 1, 2, none⟩ = some (strV f) := cell_set_ne b2 (by omega)
  have y0 : (w2.setCell ⟨S + 1, 1, none⟩ (.slice (some ⟨M, 0, none⟩) n capm)).cell? ⟨S, 0, none⟩ = some (strV m) := by rw [World.cell?_setCell_other _ _ _ _ (by intro e; injection e; omega)]; exact a0
  have y1 : (w2.setCell ⟨S + 1, 1, none⟩ (.slice (some ⟨M, 0, none⟩) n capm)).cell? ⟨S, 1, none⟩ = some (.slice A n cap) := by rw [World.cell?_setCell_other _ _ _ _ (by intro e; injection e; omega)]; exact a1
  have y2 : (w2.setCell ⟨S + 1, 1, none⟩ (.slice (some ⟨M, 0, none⟩) n capm)).cell? ⟨S, 2, none⟩ = some (strV f) := by rw [World.cell?_setCell_other _ _ _ _ (by intro e; injection e; omega)]; exact a2
  have x0 : (w2.setCell ⟨S + 1, 1, none⟩ (.slice (some ⟨M, 0, none⟩) n capm)).cell? ⟨M, n * 2, none⟩ = some (strV markL) := by rw [World.cell?_setCell_other _ _ _ _ (by intro e; injection e; omega)]; exact HL.c0
  have x1 : (w2.setCell ⟨S + 1, 1, none⟩ (.slice (some ⟨M, 0, none⟩) n capm)).cell? ⟨M, n * 2 + 1, none⟩ = some (strV []) := by rw [World.cell?_setCell_other _ _ _ _ (by intro e; injection e; omega)]; exact HL.c1
  have xr : TagRow (w2.setCell ⟨S + 1, 1, none⟩ (.slice (some ⟨M, 0, none⟩) n capm)) (some ⟨M, 0, none⟩) n tk tv := HL.row.set _ (by omega)
  have hb3 : Below S w (w2.setCell ⟨S + 1, 1, none⟩ (.slice (some ⟨M, 0, none⟩) n capm)) := hB.setCell (p := ⟨S + 1, 1, none⟩) (by show S ≤ S + 1; omega) _
  have HX : Bx _ := ⟨And.intro z0 (And.intro z1 (And.intro z2 (And.intro y0 (And.intro y1 (And.intro y2 (And.intro x0 (And.intro x1 (And.intro xr hb3))))))))⟩
  clear z0 z1 z2 y0 y1 y2 x0 x1 xr hb3 a0 a1 a2 hB HL HP0 hfz kl1 hn hA
  go_wp2_with fail
  generalize w2.setCell ⟨S + 1, 1, none⟩ (.slice (some ⟨M, 0, none⟩) n capm) = w3 at *
  obtain ⟨z0, z1, z2, y0, y1, y2, x0, x1, xr, hb3⟩ := HX.out
  have hb3' : Below w.heap.size w w3 := by rw [HS.out]; exact hb3
  have hG3 := HGK.out.below hb3'
  have hr3 := HR.out.below hb3'
  have hm3 : SerIn w3 m f (some ⟨M, 0, none⟩) n tk tv := ⟨xr, hr3.m, hr3.f, hr3.n⟩
  clear hr hG HR HLB HPB hf2 b0 b1 b2 hsz
  have gG := fun d os => hG3.below (below_regrown w3 d os)
  have gR := fun d os => hr3.below (below_regrown w3 d os)
  have gM := fun d os => hm3.below (below_regrown w3 d os)
  have k0 : ∀ d os, Calls Tryd.prog 13 #[] (Go.Sort.grow (redrawn w3 d) os) _ := fun d os => live_any _ (gG d os)
  have k1 : ∀ d os, Calls Tryd.prog 18 #[strV t] (Go.Sort.grow (redrawn w3 d) os) _ := fun d os => name_any t _ ht (gG d os)
  have k2 : ∀ d os, Calls Tryd.prog 19 #[strV t] (Go.Sort.grow (redrawn w3 d) os) _ := fun d os => rname_any t _ ht
  have k3 : ∀ d os, Calls Tryd.prog 20 #[strV t] (Go.Sort.grow (redrawn w3 d) os) _ := fun d os => text_any t _ ht (gG d os)
  have k4 : ∀ d os, Calls Tryd.prog 21 #[strV t] (Go.Sort.grow (redrawn w3 d) os) _ := fun d os => rtext_any t _ ht
  have k5 : ∀ d os, Calls Tryd.prog 22 #[.slice (some ⟨M, 0, none⟩) n capm] (Go.Sort.grow (redrawn w3 d) os) _ := fun d os => tags_any (some ⟨M, 0, none⟩) n capm tk tv _ (gM d os).row hr3.n (gG d os)
  have k6 : ∀ d os, Calls Tryd.prog 23 #[.slice A n cap] (Go.Sort.grow (redrawn w3 d) os) _ := fun d os => rtags_any A n cap tk tv _ (gR d os).row hr3.n
  have k7 : ∀ d os, Calls Tryd.prog 24 #[.agg #[strV m, .slice (some ⟨M, 0, none⟩) n capm, strV f]] (Go.Sort.grow (redrawn w3 d) os) _ := fun d os => series_any m f (some ⟨M, 0, none⟩) n capm tk tv _ (gM d os) (gG d os)
  have k8 : ∀ d os, Calls Tryd.prog 25 #[.agg #[strV m, .slice A n cap, strV f]] (Go.Sort.grow (redrawn w3 d) os) _ := fun d os => rseries_any m f A n cap tk tv _ (gR d os)
  have k9 : ∀ d os, Calls Tryd.prog 26 #[.slice (some ⟨M, 0, none⟩) n capm, .slice A n cap] (Go.Sort.grow (redrawn w3 d) os) _ := fun d os => kept_any A n cap M capm tk tv _ (gR d os).row (gM d os).row (cell_regrown x0 d os) (cell_regrown x1 d os) HN.out.2 HN.out.1
  have s1 : ∀ d os, Calls Tryd.prog 17 #[eV (nameC t), badV (nameC t)] (Go.Sort.grow (redrawn w3 d) os) _ := fun d os => same_C _ _ (gG d os) (nameC_pos t)
  have s2 : ∀ d os, Calls Tryd.prog 17 #[eV (textC t), badV (textC t)] (Go.Sort.grow (redrawn w3 d) os) _ := fun d os => same_C _ _ (gG d os) (textC_pos t)
  have s3 : ∀ d os, Calls Tryd.prog 17 #[eV (tagsC n tk tv), badV (tagsC n tk tv)] (Go.Sort.grow (redrawn w3 d) os) _ := fun d os => same_C _ _ (gG d os) (tagsC_pos n tk tv)
  have s4 : ∀ d os, Calls Tryd.prog 17 #[eV (seriesC m f n tk tv), badV (seriesC m f n tk tv)] (Go.Sort.grow (redrawn w3 d) os) _ := fun d os => same_C _ _ (gG d os) (seriesC_pos m f n tk tv)
  generalize nameC t = C1 at *
  generalize textC t = C2 at *
  generalize tagsC n tk tv = C3 at *
  generalize seriesC m f n tk tv = C4 at *
  have q0 := cell_regrown z0
  have q1 := cell_regrown z1
  have q2 := cell_regrown z2
  have q3 := cell_regrown y0
  have q4 := cell_regrown y1
  have q5 := cell_regrown y2
  have HB3 : Bx _ := ⟨hb3⟩
  clear z0 z1 z2 y0 y1 y2 x0 x1 xr hb3 hb3' hG3 hr3 hm3 gG gR gM HX
  refine wp_region_quiet_below (by kernel_rfl) (by kernel_rfl) ?_
  repeat (go_big_quiet_step (first | (go_at_call 13; with_reducible exact Calls.regrown_of (k0 _ _)) | (go_at_call 18; with_reducible exact Calls.regrown_of (k1 _ _)) | (go_at_call 19; with_reducible exact Calls.regrown_of (k2 _ _)) | (go_at_call 20; with_reducible exact Calls.regrown_of (k3 _ _)) | (go_at_call 21; with_reducible exact Calls.regrown_of (k4 _ _)) | (go_at_call 22; with_reducible exact Calls.regrown_of (k5 _ _)) | (go_at_call 23; with_reducible exact Calls.regrown_of (k6 _ _)) | (go_at_call 24; with_reducible exact Calls.regrown_of (k7 _ _)) | (go_at_call 25; with_reducible exact Calls.regrown_of (k8 _ _)) | (go_at_call 26; with_reducible exact Calls.regrown_of (k9 _ _)) | (go_at_call 17; with_reducible exact Calls.regrown_of (s1 _ _)) | (go_at_call 17; with_reducible exact Calls.regrown_of (s2 _ _)) | (go_at_call 17; with_reducible exact Calls.regrown_of (s3 _ _)) | (go_at_call 17; with_reducible exact Calls.regrown_of (s4 _ _))))
  refine wpQuiet_nil ?_
  intro _ hw'
  obtain ⟨⟨dq, osq⟩, hw''⟩ := hw'
  subst hw''
  have HF : Bx (Below S w (Go.Sort.grow (redrawn w3 dq) osq)) := ⟨HB3.out.trans ((below_regrown w3 dq osq).mono (by have := HB3.out.size; have := HS.out; omega))⟩
  clear HB3 q0 q1 q2 q3 q4 q5 k0 k1 k2 k3 k4 k5 k6 k7 k8 k9 s1 s2 s3 s4
  generalize Go.Sort.grow (redrawn w3 dq) osq = w4 at *
  go_wp2
  go_ret
  exact ⟨rfl, by rw [HS.out]; exact HF.out⟩
end Go.Proofs.YtnpagnghnohmdaaDoor
