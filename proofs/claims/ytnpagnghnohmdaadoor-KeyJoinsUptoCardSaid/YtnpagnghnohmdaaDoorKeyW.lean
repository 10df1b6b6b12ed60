/- The reference's Same; the walk of the statement KeyOrder. -/
import Derived.Test.YtnpagnghnohmdaaDoorKeyV
set_option linter.unusedSimpArgs false
set_option linter.unusedVariables false
namespace Go.Proofs.YtnpagnghnohmdaaDoor
open Go.RowKit
set_option maxHeartbeats 4000000 in
set_option maxRecDepth 100000 in
theorem rsame_any (m f : List UInt8) (A : Option Addr) (n cap : Nat) (tk tv : Nat → List UInt8) (m' f' : List UInt8) (A' : Option Addr) (n' cap' : Nat) (tk' tv' : Nat → List UInt8) (w : World) (hr : SerIn w m f A n tk tv) (hr' : SerIn w m' f' A' n' tk' tv') :
    Calls Tryd.prog 33 #[.agg #[strV m, .slice A n cap, strV f], .agg #[strV m', .slice A' n' cap', strV f']] w fun e w' => e = .returned (.bool (cmpS m n tk tv f m' n' tk' tv' f' == 0)) ∧ Below w.heap.size w w' := by
  have HP : Bx _ := ⟨PBX.fresh w m f m' f' (.slice A n cap) (.slice A' n' cap') 24⟩
  have kf : ∀ x, Below w.heap.size w x → Calls Tryd.prog 32 #[.agg #[strV m, .slice A n cap, strV f], .agg #[strV m', .slice A' n' cap', strV f']] x fun e w' => e = .returned (.int .i64 (cmpS m n tk tv f m' n' tk' tv' f')) ∧ Below x.heap.size x w' := fun x hb => rcompare_any m f A n cap tk tv m' f' A' n' cap' tk' tv' x (hr.below hb) (hr'.below hb)
  generalize cmpS m n tk tv f m' n' tk' tv' f' = V at *
  clear hr hr'
  go_enter Tryd.func33, Tryd.ntmps33
  go_wp2_with fail
  generalize (w.alloc (.cells #[strV m, .slice A n cap, strV f] 24)).alloc (.cells #[strV m', .slice A' n' cap', strV f'] 24) = w0 at *
  generalize hS : w.heap.size = S at *
  have HS : Bx (w.heap.size = S) := ⟨hS⟩
  clear hS
  obtain ⟨a0, a1, a2, b0, b1, b2, hB⟩ := HP.out
  go_wp2_with fail
  refine (kf _ hB).mono ?_
  rintro e w1 ⟨rfl, h1⟩
  obtain ⟨-, -, -, -, -, -, hB'⟩ := PBX.step HP.out h1
  clear a0 a1 a2 b0 b1 b2 hB HP kf h1
  go_wp2
  go_ret
  exact ⟨rfl, by rw [HS.out]; exact hB'⟩
/-- three series' boxes -/
def PBY (w : World) (S : Nat) (m : List UInt8) (t : Value) (f : List UInt8) (m' : List UInt8) (t' : Value) (f' : List UInt8) (m'' : List UInt8) (t'' : Value) (f'' : List UInt8) (x : World) : Prop :=
  PBX w S m t f m' t' f' x ∧ x.cell? ⟨S + 2, 0, none⟩ = some (strV m'') ∧ x.cell? ⟨S + 2, 1, none⟩ = some t'' ∧ x.cell? ⟨S + 2, 2, none⟩ = some (strV f'')
theorem PBY.step {w x y : World} {S : Nat} {m f m' f' m'' f'' : List UInt8} {t t' t'' : Value} (h : PBY w S m t f m' t' f' m'' t'' f'' x) (hb : Below x.heap.size x y) : PBY w S m t f m' t' f' m'' t'' f'' y := by
  obtain ⟨h, a0, a1, a2⟩ := h
  refine ⟨h.step hb, ?_, ?_, ?_⟩
  · rw [hb.cell (block_lt_of_cell a0)]; exact a0
  · rw [hb.cell (block_lt_of_cell a1)]; exact a1
  · rw [hb.cell (block_lt_of_cell a2)]; exact a2
theorem PBY.fresh (w : World) (m f m' f' m'' f'' : List UInt8) (t t' t'' : Value) (T : Nat) : PBY w w.heap.size m t f m' t' f' m'' t'' f'' (((w.alloc (.cells #[strV m, t, strV f] T)).alloc (.cells #[strV m', t', strV f'] T)).alloc (.cells #[strV m'', t'', strV f''] T)) := by
  refine ⟨(PBX.fresh w m f m' f' t t' T).alloc _, ?_, ?_, ?_⟩
  · rw [World.cell?_alloc_at _ _ _ _ (by simp)]; rfl
  · rw [World.cell?_alloc_at _ _ _ _ (by simp)]; rfl
  · rw [World.cell?_alloc_at _ _ _ _ (by simp)]; rfl
theorem sgn_cases {x : Int} (h : Sgn x) : x = -1 ∨ x = 0 ∨ x = 1 := by unfold Sgn at h; omega
set_option maxHeartbeats 8000000 in
set_option maxRecDepth 100000 in
theorem order_any (m f : List UInt8) (A : Option Addr) (n cap : Nat) (tk tv : Nat → List UInt8) (m' f' : List UInt8) (A' : Option Addr) (n' cap' : Nat) (tk' tv' : Nat → List UInt8) (m'' f'' : List UInt8) (A'' : Option Addr) (n'' cap'' : Nat) (tk'' tv'' : Nat → List UInt8) (w : World) (hr : SerIn w m f A n tk tv) (hr' : SerIn w m' f' A' n' tk' tv') (hr'' : SerIn w m'' f'' A'' n'' tk'' tv'') (hG : GlobK w) :
    Calls Tryd.prog 8 #[.agg #[strV m, .slice A n cap, strV f], .agg #[strV m', .slice A' n' cap', strV f'], .agg #[strV m'', .slice A'' n'' cap'', strV f'']] w fun e w' => e = .returned (.bool true) ∧ Below w.heap.size w w' := by
  have HP : Bx _ := ⟨PBY.fresh w m f m' f' m'' f'' (.slice A n cap) (.slice A' n' cap') (.slice A'' n'' cap'') 24⟩
  have k0 : ∀ x, Below w.heap.size w x → Calls Tryd.prog 13 #[] x _ := fun x hb => live_any x (hG.below hb)
  have k1 : ∀ x, Below w.heap.size w x → Calls Tryd.prog 31 #[.agg #[strV m, .slice A n cap, strV f], .agg #[strV m', .slice A' n' cap', strV f']] x _ := fun x hb => kcompare_any m f A n cap tk tv m' f' A' n' cap' tk' tv' x (hr.below hb) (hr'.below hb)
  have k2 : ∀ x, Below w.heap.size w x → Calls Tryd.prog 31 #[.agg #[strV m', .slice A' n' cap', strV f'], .agg #[strV m'', .slice A'' n'' cap'', strV f'']] x _ := fun x hb => kcompare_any m' f' A' n' cap' tk' tv' m'' f'' A'' n'' cap'' tk'' tv'' x (hr'.below hb) (hr''.below hb)
  have k3 : ∀ x, Below w.heap.size w x → Calls Tryd.prog 31 #[.agg #[strV m, .slice A n cap, strV f], .agg #[strV m'', .slice A'' n'' cap'', strV f'']] x _ := fun x hb => kcompare_any m f A n cap tk tv m'' f'' A'' n'' cap'' tk'' tv'' x (hr.below hb) (hr''.below hb)
  have k4 : ∀ x, Below w.heap.size w x → Calls Tryd.prog 31 #[.agg #[strV m', .slice A' n' cap', strV f'], .agg #[strV m, .slice A n cap, strV f]] x _ := fun x hb => kcompare_any m' f' A' n' cap' tk' tv' m f A n cap tk tv x (hr'.below hb) (hr.below hb)
  have k5 : ∀ x, Below w.heap.size w x → Calls Tryd.prog 33 #[.agg #[strV m, .slice A n cap, strV f], .agg #[strV m', .slice A' n' cap', strV f']] x _ := fun x hb => rsame_any m f A n cap tk tv m' f' A' n' cap' tk' tv' x (hr.below hb) (hr'.below hb)
  have T : Bx (Tri (cmpS m n tk tv f m' n' tk' tv' f') (cmpS m' n' tk' tv' f' m'' n'' tk'' tv'' f'') (cmpS m n tk tv f m'' n'' tk'' tv'' f'')) := ⟨by simp only [cmpS_ser]; exact cmpSer_good.tri _ _ _⟩
  have N : Bx (cmpS m' n' tk' tv' f' m n tk tv f = -cmpS m n tk tv f m' n' tk' tv' f') := ⟨by simp only [cmpS_ser]; exact cmpSer_good.anti _ _⟩
  have s1 : Bx (Sgn (cmpS m n tk tv f m' n' tk' tv' f')) := ⟨by simp only [cmpS_ser]; exact cmpSer_sgn _ _⟩
  have s2 : Bx (Sgn (cmpS m' n' tk' tv' f' m'' n'' tk'' tv'' f'')) := ⟨by simp only [cmpS_ser]; exact cmpSer_sgn _ _⟩
  have s3 : Bx (Sgn (cmpS m n tk tv f m'' n'' tk'' tv'' f'')) := ⟨by simp only [cmpS_ser]; exact cmpSer_sgn _ _⟩
  rw [N.out] at k4
  clear N
  generalize cmpS m n tk tv f m' n' tk' tv' f' = X at *
  generalize cmpS m' n' tk' tv' f' m'' n'' tk'' tv'' f'' = Y at *
  generalize cmpS m n tk tv f m'' n'' tk'' tv'' f'' = Z at *
  clear hr hr' hr'' hG
  go_enter Tryd.func8, Tryd.ntmps8
  go_wp2_with fail
  generalize ((w.alloc (.cells #[strV m, .slice A n cap, strV f] 24)).alloc (.cells #[strV m', .slice A' n' cap', strV f'] 24)).alloc (.cells #[strV m'', .slice A'' n'' cap'', strV f''] 24) = w1 at *
  generalize hS : w.heap.size = S at *
  have HS : Bx (w.heap.size = S) := ⟨hS⟩
  clear hS
  obtain ⟨⟨a0, a1, a2, b0, b1, b2, hB⟩, c0, c1, c2⟩ := HP.out
  have hBs : S < w1.heap.size := block_lt_of_cell a0
  have hbg : ∀ d os, Below S w (Go.Sort.grow (redrawn w1 d) os) := fun d os => hB.trans ((below_regrown w1 d os).mono (Nat.le_of_lt hBs))
  have j1 := fun d os => k1 _ (hbg d os)
  have j2 := fun d os => k2 _ (hbg d os)
  have j3 := fun d os => k3 _ (hbg d os)
  have q0 := cell_regrown a0
  have q1 := cell_regrown a1
  have q2 := cell_regrown a2
  have q3 := cell_regrown b0
  have q4 := cell_regrown b1
  have q5 := cell_regrown b2
  have q6 := cell_regrown c0
  have q7 := cell_regrown c1
  have q8 := cell_regrown c2
  clear a0 a1 a2 b0 b1 b2 hB c0 c1 c2 hBs hbg k1 k2 k3
  refine wp_region_quiet_below (by kernel_rfl) (by kernel_rfl) ?_
  repeat (go_big_quiet_step (first | (go_at_call 31; first | (with_reducible exact Calls.regrown_of (j1 _ _)) | (with_reducible exact Calls.regrown_of (j2 _ _)) | (with_reducible exact Calls.regrown_of (j3 _ _)))))
  refine wpQuiet_nil ?_
  intro _ hw'
  obtain ⟨⟨dq, osq⟩, hw''⟩ := hw'
  subst hw''
  have HQ : Bx _ := ⟨PBY.step HP.out (below_regrown w1 dq osq)⟩
  clear HP q0 q1 q2 q3 q4 q5 q6 q7 q8 j1 j2 j3
  generalize Go.Sort.grow (redrawn w1 dq) osq = w3 at *
  obtain ⟨⟨a0, a1, a2, b0, b1, b2, hB⟩, c0, c1, c2⟩ := HQ.out
  go_wp2_with fail
  refine (k0 _ hB).mono ?_
  rintro e w4 ⟨rfl, h4⟩
  have HQ4 : Bx _ := ⟨PBY.step HQ.out h4⟩
  clear HQ h4 k0 a0 a1 a2 b0 b1 b2 hB c0 c1 c2
  obtain ⟨⟨a0, a1, a2, b0, b1, b2, hB⟩, c0, c1, c2⟩ := HQ4.out
  have hx := sgn_cases s1.out
  have hy := sgn_cases s2.out
  have hz := sgn_cases s3.out
  clear s1 s2 s3
  go_wp2_with fail
  refine (k4 _ hB).mono ?_
  rintro e w5 ⟨rfl, h5⟩
  have HQ5 : Bx _ := ⟨PBY.step HQ4.out h5⟩
  clear HQ4 h5 k4 a0 a1 a2 b0 b1 b2 hB c0 c1 c2
  obtain ⟨⟨a0, a1, a2, b0, b1, b2, hB⟩, c0, c1, c2⟩ := HQ5.out
  have g1 : IntKind.i64.wrap (- -X) = X := by rw [Int.neg_neg]; rcases hx with rfl | rfl | rfl <;> decide
  go_wp2_with fail
  refine (k5 _ hB).mono ?_
  rintro e w6 ⟨rfl, h6⟩
  have HF : Bx (Below S w w6) := ⟨(PBY.step HQ5.out h6).1.2.2.2.2.2.2⟩
  clear HQ5 h6 k5 a0 a1 a2 b0 b1 b2 hB c0 c1 c2 g1
  have t := T.out
  obtain ⟨t1, t2, t3, t4⟩ := t
  rcases hx with rfl | rfl | rfl <;> rcases hy with rfl | rfl | rfl <;> rcases hz with rfl | rfl | rfl <;>
    first
    | (exfalso; clear T HF HS; omega)
    | (clear t1 t2 t3 t4 T
       go_wp2
       go_ret
       exact ⟨rfl, by rw [HS.out]; exact HF.out⟩)
end Go.Proofs.YtnpagnghnohmdaaDoor
