/- key.Right. Conditions: the two tables of unicode/utf8 and errors.errorType hold what the program's text lays in them. -/
import Derived.Test.YtbaopcpmmdmomaaGreatDoorKeyG
set_option linter.unusedSimpArgs false
set_option linter.unusedVariables false
namespace Go.Proofs.YtbaopcpmmdmomaaGreatDoor
open Go.RowKit
/-- what is wrong with a series -/
def seriesC (m f : List UInt8) (n : Nat) (tk tv : Nat → List UInt8) : Int := if nameC m = 0 then (if tagsC n tk tv = 0 then (if wordB f then 0 else 50) else tagsC n tk tv) else nameC m
/-- a series' box -/
structure SB (w0 w : World) (S : Nat) (m f : List UInt8) (A : Option Addr) (n cap : Nat) : Prop where
  below : Below S w0 w
  lt : S < w.heap.size
  c0 : w.cell? ⟨S, 0, none⟩ = some (strV m)
  c1 : w.cell? ⟨S, 1, none⟩ = some (.slice A n cap)
  c2 : w.cell? ⟨S, 2, none⟩ = some (strV f)
theorem SB.alloc (w : World) (m f : List UInt8) (A : Option Addr) (n cap T : Nat) : SB w (w.alloc (.cells #[strV m, .slice A n cap, strV f] T)) w.heap.size m f A n cap where
  below := below1 _ _
  lt := by simp only [heap_push, Array.size_push]; omega
  c0 := by rw [World.cell?_alloc_at _ _ _ _ rfl]; rfl
  c1 := by rw [World.cell?_alloc_at _ _ _ _ rfl]; rfl
  c2 := by rw [World.cell?_alloc_at _ _ _ _ rfl]; rfl
theorem SB.step {w0 w w' : World} {S : Nat} {m f : List UInt8} {A : Option Addr} {n cap : Nat} (g : SB w0 w S m f A n cap) (hb : Below w.heap.size w w') : SB w0 w' S m f A n cap where
  below := g.below.trans (hb.mono (Nat.le_of_lt g.lt))
  lt := Nat.lt_of_lt_of_le g.lt hb.size
  c0 := by rw [hb.cell (p := ⟨S, 0, none⟩) g.lt]; exact g.c0
  c1 := by rw [hb.cell (p := ⟨S, 1, none⟩) g.lt]; exact g.c1
  c2 := by rw [hb.cell (p := ⟨S, 2, none⟩) g.lt]; exact g.c2
/-- what is asked of a series that is handed in -/
structure SerIn (w : World) (m f : List UInt8) (A : Option Addr) (n : Nat) (tk tv : Nat → List UInt8) : Prop where
  row : TagRow w A n tk tv
  m : m.length ≤ 9223372036854775807
  f : f.length ≤ 9223372036854775807
  n : n ≤ 9223372036854775807
theorem SerIn.below {w w' : World} {m f : List UInt8} {A : Option Addr} {n : Nat} {tk tv : Nat → List UInt8} (h : SerIn w m f A n tk tv) (hb : Below w.heap.size w w') : SerIn w' m f A n tk tv := ⟨h.row.below hb, h.m, h.f, h.n⟩
set_option maxHeartbeats 2000000 in
set_option maxRecDepth 100000 in
theorem series_any (m f : List UInt8) (A : Option Addr) (n cap : Nat) (tk tv : Nat → List UInt8) (w : World) (hr : SerIn w m f A n tk tv) (hG : GlobK w) :
    Calls Tryz.prog 22 #[.agg #[strV m, .slice A n cap, strV f]] w fun e w' => e = .returned (eV (seriesC m f n tk tv)) ∧ Below w.heap.size w w' := by
  have HR : Bx _ := ⟨hr⟩
  have HGK : Bx (GlobK w) := ⟨hG⟩
  have HI : Bx _ := ⟨SB.alloc w m f A n cap 24⟩
  have k1 := fun w h => name_any m w hr.m h
  have k2 := fun w h1 h => tags_any A n cap tk tv w h1 hr.n h
  have k3 := fun w h => word_any f w hr.f h
  obtain ⟨N, hN⟩ : ∃ N, nameC m = N := ⟨_, rfl⟩
  obtain ⟨T, hT⟩ : ∃ T, tagsC n tk tv = T := ⟨_, rfl⟩
  obtain ⟨W, hW⟩ : ∃ W, wordB f = W := ⟨_, rfl⟩
  rw [hN] at k1
  rw [hT] at k2
  rw [hW] at k3
  have HE : Bx (seriesC m f n tk tv = if N = 0 then (if T = 0 then (if W then 0 else 50) else T) else N) := ⟨by unfold seriesC; rw [hN, hT, hW]⟩
  have hn : N = 0 ∨ N = 50 := by rw [← hN]; unfold nameC; split <;> simp
  have ht : T = 0 ∨ T = 52 := by rw [← hT]; unfold tagsC; split <;> simp
  clear hN hT hW hr hG
  go_enter Tryz.func22, Tryz.ntmps22
  go_wp2_with fail
  generalize (w.alloc (.cells #[strV m, .slice A n cap, strV f] 24)) = w0 at *
  generalize hS : w.heap.size = S at *
  have HS : Bx (w.heap.size = S) := ⟨hS⟩
  clear hS
  have hb0 : Below w.heap.size w w0 := by rw [HS.out]; exact HI.out.below
  refine (k1 _ (HGK.out.below hb0)).mono ?_
  rintro e w1 ⟨rfl, h1⟩
  have HJ : Bx _ := ⟨HI.out.step h1⟩
  clear h1 hb0 HI k1
  rcases hn with rfl | rfl
  · have c1 := HJ.out.c1
    simp only [eV_zero]
    go_wp2_with fail
    have hb1 : Below w.heap.size w w1 := by rw [HS.out]; exact HJ.out.below
    refine (k2 _ (HR.out.row.below hb1) (HGK.out.below hb1)).mono ?_
    rintro e w2 ⟨rfl, h2⟩
    have HK : Bx _ := ⟨HJ.out.step h2⟩
    clear h2 HJ k2 c1
    rcases ht with rfl | rfl
    · have c2 := HK.out.c2
      simp only [eV_zero]
      go_wp2_with fail
      have hb2 : Below w.heap.size w w2 := by rw [HS.out]; exact HK.out.below
      refine (k3 _ (HGK.out.below hb2)).mono ?_
      rintro e w3 ⟨rfl, h3⟩
      have HL : Bx _ := ⟨HK.out.step h3⟩
      clear h3 HK k3 c2 hb1 hb2
      cases W
      all_goals
        go_wp2_with (go_at_call 63; refine (new_any _ _ (by decide)).mono ?_; rintro e w' ⟨rfl, rfl⟩)
        go_ret
        exact ⟨by rw [HE.out]; rfl, by rw [HS.out]; exact HL.out.below⟩
    · rw [eV_pos (by decide)]
      go_wp2
      go_ret
      exact ⟨by rw [HE.out]; rfl, by rw [HS.out]; exact HK.out.below⟩
  · rw [eV_pos (by decide)]
    go_wp2
    go_ret
    exact ⟨by rw [HE.out]; rfl, by rw [HS.out]; exact HJ.out.below⟩
end Go.Proofs.YtbaopcpmmdmomaaGreatDoor
