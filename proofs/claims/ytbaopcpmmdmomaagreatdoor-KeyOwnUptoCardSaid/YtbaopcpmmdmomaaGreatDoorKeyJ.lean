/- The statements' live of layer key. Conditions: the two tables of unicode/utf8 and errors.errorType hold what the program's text lays in them. -/
import Derived.Test.YtbaopcpmmdmomaaGreatDoorKeyI
set_option linter.unusedSimpArgs false
set_option linter.unusedVariables false
namespace Go.Proofs.YtbaopcpmmdmomaaGreatDoor
open Go.RowKit
theorem good_asc (l : List UInt8) (h : ∀ c ∈ l, 32 ≤ c.toNat ∧ c.toNat < 127) : goodL l = true := by
  induction l with
  | nil => exact goodL_nil
  | cons c t ih =>
    have hc := h c (by simp)
    have hw : wideL (c :: t) = 1 := wide_lo (by simp) (by simp; omega)
    rw [goodL_step (by simp) (by rw [hw]; simp; omega), hw]
    exact ih (fun x hx => h x (by simp [hx]))
def liveT (k v : List UInt8) : Nat → List UInt8 := fun _ => k
theorem live_key : keyL [99, 112, 117] [118] 1 (fun _ => [104, 111, 115, 116]) (fun _ => [97, 32, 98]) = [99, 112, 117, 44, 104, 111, 115, 116, 61, 97, 92, 32, 98, 32, 118] := by
  have g1 : rightB [99, 112, 117] 64 = true := by unfold rightB; rw [good_asc _ (by decide)]; rfl
  have g2 : rightB [97, 32, 98] 256 = true := by unfold rightB; rw [good_asc _ (by decide)]; rfl
  have g3 : wordB [104, 111, 115, 116] = true := by unfold wordB rightB; rw [good_asc _ (by decide)]; rfl
  have g4 : wordB [118] = true := by unfold wordB rightB; rw [good_asc _ (by decide)]; rfl
  have hs : seriesC [99, 112, 117] [118] 1 (fun _ => [104, 111, 115, 116]) (fun _ => [97, 32, 98]) = 0 := by
    unfold seriesC nameC tagsC wrongU wrongU tagBad
    rw [g1, g3, g2, g4]
    rfl
  unfold keyL
  rw [if_pos hs]
  rfl
theorem live_name : nameC [] = 50 := rfl
set_option maxHeartbeats 2000000 in
set_option maxRecDepth 100000 in
theorem live_any (w : World) (hG : GlobK w) :
    Calls Tryz.prog 12 #[] w fun e w' => e = .returned (.bool true) ∧ Below w.heap.size w w' := by
  have HGK : Bx (GlobK w) := ⟨hG⟩
  have hb1 := below1 w (.cells #[strV [104, 111, 115, 116], strV [97, 32, 98]] 70)
  have k1 := kprint_any [99, 112, 117] [118] (some ⟨w.heap.size, 0, none⟩) 1 1 (fun _ => [104, 111, 115, 116]) (fun _ => [97, 32, 98]) (w.alloc (.cells #[strV [104, 111, 115, 116], strV [97, 32, 98]] 70)) ⟨⟨fun _ => ⟨w.heap.size, 0, rfl, fun i hi => by
    obtain rfl : i = 0 := by omega
    constructor
    · rw [World.cell?_alloc_at _ _ _ _ rfl]; rfl
    · rw [World.cell?_alloc_at _ _ _ _ rfl]; rfl⟩, fun i _ => ⟨by simp, by simp⟩⟩, by simp, by simp, by omega⟩ (hG.below hb1)
  rw [live_key] at k1
  have k2 := fun w h => name_any [] w (by simp) h
  rw [live_name, eV_pos (by decide)] at k2
  go_enter Tryz.func12, Tryz.ntmps12
  go_wp2_with fail
  refine k1.mono ?_
  rintro e w1 ⟨rfl, h1⟩
  have H1 : Bx (Below w.heap.size w w1) := ⟨hb1.trans (h1.mono (by simp))⟩
  clear k1 h1 hb1
  go_wp2_with fail
  refine (k2 _ (HGK.out.below H1.out)).mono ?_
  rintro e w2 ⟨rfl, h2⟩
  have H2 : Bx (Below w.heap.size w w2) := ⟨H1.out.trans (h2.mono H1.out.size)⟩
  clear h2 k2
  go_wp2_with fail
  refine (is_E 50 50 _ (HGK.out.below H2.out).g (by decide) (by decide)).mono ?_
  rintro e w3 ⟨rfl, h3⟩
  have H3 : Bx (Below w.heap.size w w3) := ⟨H2.out.trans (h3.mono H2.out.size)⟩
  clear h3
  go_wp2
  go_ret
  exact ⟨rfl, H3.out⟩
end Go.Proofs.YtbaopcpmmdmomaaGreatDoor
