/- key.Compare; the reference's Compare and Same. -/
import Derived.Test.YtnpagnghnohmdaaDoorKeyS
import Derived.Test.YtnpagnghnohmdaaDoorKeyH
import Derived.Deep.RegionHeld3
set_option linter.unusedSimpArgs false
set_option linter.unusedVariables false
namespace Go.Proofs.YtnpagnghnohmdaaDoor
open Go.RowKit
/-- the order of two series -/
def cmpS (m : List UInt8) (n : Nat) (tk tv : Nat → List UInt8) (f : List UInt8) (m' : List UInt8) (n' : Nat) (tk' tv' : Nat → List UInt8) (f' : List UInt8) : Int := orL [cmpL m m', cmpT tk tv tk' tv' n n', cmpL f f']
theorem or3 (x y z : Int) (b : Nat) (w : World) (h0 : w.cell? ⟨b, 0, none⟩ = some (.int .i64 x)) (h1 : w.cell? ⟨b, 1, none⟩ = some (.int .i64 y)) (h2 : w.cell? ⟨b, 2, none⟩ = some (.int .i64 z)) :
    Calls Tryd.prog 62 #[.slice (some ⟨b, 0, none⟩) 3 3] w fun e w' => e = .returned (.int .i64 (orL [x, y, z])) ∧ w = w' :=
  or_any b [x, y, z] 3 w (by simp) (fun i hi => by
    rcases i with _ | _ | _ | i
    · exact h0
    · exact h1
    · exact h2
    · simp at hi; omega)
/-- two series' boxes -/
def PBX (w : World) (S : Nat) (m : List UInt8) (t : Value) (f : List UInt8) (m' : List UInt8) (t' : Value) (f' : List UInt8) (x : World) : Prop :=
  x.cell? ⟨S, 0, none⟩ = some (strV m) ∧ x.cell? ⟨S, 1, none⟩ = some t ∧ x.cell? ⟨S, 2, none⟩ = some (strV f) ∧ x.cell? ⟨S + 1, 0, none⟩ = some (strV m') ∧ x.cell? ⟨S + 1, 1, none⟩ = some t' ∧ x.cell? ⟨S + 1, 2, none⟩ = some (strV f') ∧ Below S w x
theorem PBX.step {w x y : World} {S : Nat} {m f m' f' : List UInt8} {t t' : Value} (h : PBX w S m t f m' t' f' x) (hb : Below x.heap.size x y) : PBX w S m t f m' t' f' y := by
  obtain ⟨a0, a1, a2, b0, b1, b2, hB⟩ := h
  have l0 := block_lt_of_cell a0
  have l1 := block_lt_of_cell b0
  refine ⟨?_, ?_, ?_, ?_, ?_, ?_, ?_⟩
  · rw [hb.cell (block_lt_of_cell a0)]; exact a0
  · rw [hb.cell (block_lt_of_cell a1)]; exact a1
  · rw [hb.cell (block_lt_of_cell a2)]; exact a2
  · rw [hb.cell (block_lt_of_cell b0)]; exact b0
  · rw [hb.cell (block_lt_of_cell b1)]; exact b1
  · rw [hb.cell (block_lt_of_cell b2)]; exact b2
  · exact hB.trans (hb.mono (Nat.le_of_lt l0))
theorem PBX.alloc {w x : World} {S : Nat} {m f m' f' : List UInt8} {t t' : Value} (h : PBX w S m t f m' t' f' x) (o : Obj) : PBX w S m t f m' t' f' (x.alloc o) := h.step (below1 _ _)
theorem PBX.fresh (w : World) (m f m' f' : List UInt8) (t t' : Value) (T : Nat) : PBX w w.heap.size m t f m' t' f' ((w.alloc (.cells #[strV m, t, strV f] T)).alloc (.cells #[strV m', t', strV f'] T)) := by
  refine ⟨?_, ?_, ?_, ?_, ?_, ?_, below2 _ _ _⟩
  · rw [(below1 _ _).cell (by simp only [heap_push, Array.size_push]; omega), World.cell?_alloc_at _ _ _ _ rfl]; rfl
  · rw [(below1 _ _).cell (by simp only [heap_push, Array.size_push]; omega), World.cell?_alloc_at _ _ _ _ rfl]; rfl
  · rw [(below1 _ _).cell (by simp only [heap_push, Array.size_push]; omega), World.cell?_alloc_at _ _ _ _ rfl]; rfl
  · rw [World.cell?_alloc_at _ _ _ _ (by simp)]; rfl
  · rw [World.cell?_alloc_at _ _ _ _ (by simp)]; rfl
  · rw [World.cell?_alloc_at _ _ _ _ (by simp)]; rfl
set_option maxHeartbeats 4000000 in
set_option maxRecDepth 100000 in
theorem kcompare_any (m f : List UInt8) (A : Option Addr) (n cap : Nat) (tk tv : Nat → List UInt8) (m' f' : List UInt8) (A' : Option Addr) (n' cap' : Nat) (tk' tv' : Nat → List UInt8) (w : World) (hr : SerIn w m f A n tk tv) (hr' : SerIn w m' f' A' n' tk' tv') :
    Calls Tryd.prog 31 #[.agg #[strV m, .slice A n cap, strV f], .agg #[strV m', .slice A' n' cap', strV f']] w fun e w' => e = .returned (.int .i64 (cmpS m n tk tv f m' n' tk' tv' f')) ∧ Below w.heap.size w w' := by
  have HP : Bx _ := ⟨PBX.fresh w m f m' f' (.slice A n cap) (.slice A' n' cap') 24⟩
  have kc := fun a b w => ccmp_any a b w
  have kf : ∀ x, Below w.heap.size w x → Calls Tryd.prog 64 #[.slice A n cap, .slice A' n' cap', .func (.func 61) #[] #[]] x fun e w' => e = .returned (.int .i64 (cmpT tk tv tk' tv' n n')) ∧ Below x.heap.size x w' := fun x hb => cfunc_any A A' n cap n' cap' tk tv tk' tv' x (hr.row.below hb) (hr'.row.below hb) hr.n hr'.n
  unfold cmpS
  generalize cmpT tk tv tk' tv' n n' = T at *
  clear hr hr'
  go_enter Tryd.func31, Tryd.ntmps31
  go_wp2_with fail
  generalize (w.alloc (.cells #[strV m, .slice A n cap, strV f] 24)).alloc (.cells #[strV m', .slice A' n' cap', strV f'] 24) = w0 at *
  generalize hS : w.heap.size = S at *
  have HS : Bx (w.heap.size = S) := ⟨hS⟩
  clear hS
  obtain ⟨a0, a1, a2, b0, b1, b2, hB⟩ := HP.out
  clear HP
  go_region_held3 (fun x => x.cell? ⟨S, 0, none⟩ = some (strV m) ∧ x.cell? ⟨S, 1, none⟩ = some (.slice A n cap) ∧ x.cell? ⟨S, 2, none⟩ = some (strV f) ∧ x.cell? ⟨S + 1, 0, none⟩ = some (strV m') ∧ x.cell? ⟨S + 1, 1, none⟩ = some (.slice A' n' cap') ∧ x.cell? ⟨S + 1, 2, none⟩ = some (strV f') ∧ Below S w x)
    (first | (exact ⟨a0, a1, a2, b0, b1, b2, hB.drew⟩) | assumption | (exact PBX.step (by assumption) (by assumption)) | (exact PBX.alloc (by assumption) _))
    (first
      | (go_at_call 63; refine (kc _ _ _).mono ?_; rintro e w' ⟨rfl, rfl⟩)
      | (go_at_call 64; refine (kf _ ?_).mono ?_; (go_split_ands; assumption); rintro e w' ⟨rfl, hb⟩)
      | (go_at_call 62; refine (or3 (cmpL m m') T (cmpL f f') _ _ ?_ ?_ ?_).mono ?_; (rw [World.cell?_alloc_at _ _ _ _ rfl]; rfl); (rw [World.cell?_alloc_at _ _ _ _ rfl]; rfl); (rw [World.cell?_alloc_at _ _ _ _ rfl]; rfl); rintro e w' ⟨rfl, rfl⟩))
  have hE : Below S w _ := And.right (And.right (And.right (And.right (And.right (And.right (by assumption))))))
  go_wp2_with fail
  go_ret
  exact ⟨rfl, by rw [HS.out]; exact hE⟩
end Go.Proofs.YtnpagnghnohmdaaDoor
