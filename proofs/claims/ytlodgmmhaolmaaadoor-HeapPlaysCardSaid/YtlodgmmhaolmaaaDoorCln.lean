/- maps.Clone at the heap's map; Fork. -/
import Derived.Test.YtlodgmmhaolmaaaDoorHpT
import Derived.Shelf.SlMaps.Clone
import Derived.Deep.RegionHeld3
set_option linter.unusedSimpArgs false
set_option linter.unusedVariables false
namespace Go.Proofs.YtlodgmmhaolmaaaDoor
open Go.RowKit
set_option maxHeartbeats 2000000 in
set_option maxRecDepth 100000 in
theorem mclone_at (b : Nat) (es : Array MapEntry) (clock : Nat) (w : World) (hb : w.heap[b]? = some (.map es clock)) :
    Calls Tryd.prog 41 #[.map (some b)] w fun e w' => e = .returned (.map (some w.heap.size)) ∧ w' = w.alloc (.map es clock) := by
  have hq := fun w => run_eql_map_nil_sl (P := Tryd.prog) w 68 _ _ (some b) Tryd.underlying68
  go_enter Tryd.func41, Tryd.ntmps41
  go_wp2
  rw [run_callFunc_extern Tryd.func66 (by kernel_rfl) (by kernel_rfl) (by kernel_rfl) (e := Extern.MapsClone.clone) (by kernel_rfl), run_maps_clone_sl w 68 hb]
  simp only [Result.andThen]
  rw [Oper.upon_value]
  go_wp2
  rw [run_typeAssert_map_sl _ 68 20 _ _ _ Tryd.underlying68]
  simp only [Result.andThen]
  rw [Oper.upon_value]
  go_wp2
  go_ret
  exact ⟨rfl, rfl⟩
theorem mclone_any (k : TypeId) (b n : Nat) (f : Lit → Option Value) (w : World) (h : MapAt Tryd.prog w k b n f) :
    Calls Tryd.prog 41 #[.map (some b)] w fun e w' => ∃ b', e = .returned (.map (some b')) ∧ MapAt Tryd.prog w' k b' n f ∧ Below w.heap.size w w' ∧ w.heap.size ≤ b' := by
  obtain ⟨D, ⟨es, clock, h0, F, hs, hD⟩, hf⟩ := h.own
  refine (mclone_at b es clock w h0).mono fun e w' ⟨he, hw⟩ => ⟨_, he, ?_, ?_, Nat.le_refl _⟩
  · subst hw
    exact ⟨D, ⟨es, clock, heap_alloc_new w _, F, hs, hD⟩, hf⟩
  · subst hw
    exact below1 w _
theorem fk_step {S0 hb mb : Nat} {a b : Value} {mv : Int} {w x x' : World} (h : x.cell? ⟨hb, 0, none⟩ = some a ∧ x.cell? ⟨hb, 1, none⟩ = some (.map (some mb)) ∧ x.cell? ⟨hb, 2, none⟩ = some b ∧ x.cell? ⟨hb, 3, none⟩ = some (.int .i64 mv) ∧ Below S0 w x ∧ S0 ≤ x.heap.size) (hb' : Below x.heap.size x x') :
    x'.cell? ⟨hb, 0, none⟩ = some a ∧ x'.cell? ⟨hb, 1, none⟩ = some (.map (some mb)) ∧ x'.cell? ⟨hb, 2, none⟩ = some b ∧ x'.cell? ⟨hb, 3, none⟩ = some (.int .i64 mv) ∧ Below S0 w x' ∧ S0 ≤ x'.heap.size := by
  obtain ⟨h0, h1, h2, h3, h4, h5⟩ := h
  exact ⟨by rw [hb'.cell (cell_lt h0)]; exact h0, by rw [hb'.cell (cell_lt h1)]; exact h1, by rw [hb'.cell (cell_lt h2)]; exact h2, by rw [hb'.cell (cell_lt h3)]; exact h3, h4.trans (hb'.mono h5), Nat.le_trans h5 hb'.size⟩
set_option maxHeartbeats 4000000 in
set_option maxRecDepth 100000 in
theorem fork_any (hb mb : Nat) (v : Value) (L : List Ent) (mo : Bool) (mv : Nat) (w : World) (h : HeapAt w hb mb v L mo mv) (hL : L.length * 24 ≤ 225179981352000) :
    Calls Tryd.prog 18 #[.pointer (some ⟨hb, 0, none⟩)] w fun e w' => ∃ hb' mb' v', e = .returned (.pointer (some ⟨hb', 0, none⟩)) ∧ HeapAt w' hb' mb' v' L mo mv ∧ Below w.heap.size w w' ∧ ∀ x ∈ foot hb' mb' v', w.heap.size ≤ x := by
  have c0 := h.cell0
  have c1 := h.cell1
  have c2 := h.cell2
  have c3 := h.cell3
  obtain ⟨A, cap, rfl, hr, hn⟩ := h.rowIn
  have HH := Bx.mk h
  have HR := Bx.mk (And.intro hr hn)
  obtain ⟨N, hN⟩ : ∃ N, L.length = N := ⟨_, rfl⟩
  have HN := Bx.mk hN
  rw [hN] at c0 HR hL
  obtain ⟨fi, hav⟩ : ∃ fi, aheadV mo = .func (.func fi) #[] #[] := by cases mo <;> exact ⟨_, rfl⟩
  have HAV := Bx.mk hav
  rw [hav] at c2
  have kc : ∀ x, Below w.heap.size w x → Calls Tryd.prog 40 #[.slice A N cap] x fun e w' => ∃ A' cap', e = .returned (.slice A' N cap') ∧ Bx (RowE w' (.slice A' N cap') L ∧ (∀ g, rowB (.slice A' N cap') = some g → x.heap.size ≤ g) ∧ Below x.heap.size x w') ∧ Below x.heap.size x w' := fun x hx => (eclone_any A N cap L x (HR.out.1.below hx) hL HR.out.2).mono fun e w' ⟨v', he, h1, h2, h3⟩ => by
    obtain ⟨A', cap', rfl, _⟩ := h1.form
    rw [HN.out] at *
    exact ⟨A', cap', he, ⟨h1, h3, h2⟩, h2⟩
  have km : ∀ x, Below w.heap.size w x → Calls Tryd.prog 41 #[.map (some mb)] x fun e w' => ∃ b', e = .returned (.map (some b')) ∧ Bx (MapAt Tryd.prog w' 9 b' N (placesF L) ∧ x.heap.size ≤ b' ∧ Below x.heap.size x w') ∧ Below x.heap.size x w' := fun x hx => (mclone_any _ mb _ _ x (HH.out.map.below hx)).mono fun e w' ⟨b', he, h1, h2, h3⟩ => ⟨b', he, ⟨by rw [← HN.out]; exact h1, h3, h2⟩, h2⟩
  clear h hr hn hN hav
  go_enter Tryd.func18, Tryd.ntmps18
  go_wp2_with fail
  obtain ⟨S0, hS0⟩ : ∃ S0, w.heap.size = S0 := ⟨_, rfl⟩
  have HS0 := Bx.mk hS0
  rw [hS0] at kc km
  have hb0 : Below S0 w w.drew := by rw [← hS0]; exact (Below.refl _ _).drew
  have hs0 : S0 ≤ w.drew.heap.size := by rw [← hS0]; exact Nat.le_refl _
  clear hS0
  go_region_held3 (fun x => x.cell? ⟨hb, 0, none⟩ = some (.slice A N cap) ∧ x.cell? ⟨hb, 1, none⟩ = some (.map (some mb)) ∧ x.cell? ⟨hb, 2, none⟩ = some (.func (.func fi) #[] #[]) ∧ x.cell? ⟨hb, 3, none⟩ = some (.int .i64 (mv : Int)) ∧ Below S0 w x ∧ S0 ≤ x.heap.size)
    (first | (exact ⟨c0, c1, c2, c3, hb0, hs0⟩) | assumption | (exact fk_step (by assumption) (by assumption)) | (exact fk_step (by assumption) (below1 _ _)))
    (first
      | (go_at_call 40; (with_reducible refine (kc _ ?_).mono ?_); (go_split_ands; assumption); rintro e w1 ⟨A', cap', rfl, H1, hb1⟩)
      | (go_at_call 41; (with_reducible refine (km _ ?_).mono ?_); (go_split_ands; assumption); rintro e w2 ⟨mb', rfl, H2, hb2⟩))
  have HB2 := Bx.mk (below1 w2 (.cells #[.slice A' N cap', .map (some mb'), .func (.func fi) #[] #[], .int .i64 (mv : Int)] 71))
  have hblk := heap_alloc_new w2 (.cells #[.slice A' N cap', .map (some mb'), .func (.func fi) #[] #[], .int .i64 (mv : Int)] 71)
  have hrow2 := H1.out.1.kept (S := []) (Turned.ofBelow (H2.out.2.2.trans (HB2.out.mono H2.out.2.2.size))) (fun x hx => by cases hx)
  have hs1 : w.heap.size ≤ w1.heap.size := H1.out.2.2.size
  have hs2 : w1.heap.size ≤ w2.heap.size := H2.out.2.2.size
  have hbw : Below w.heap.size w (w2.alloc (.cells #[.slice A' N cap', .map (some mb'), .func (.func fi) #[] #[], .int .i64 (mv : Int)] 71)) := by
    have h1 : Below w.heap.size w w1 := (Below.refl _ _).drew.trans (H1.out.2.2.mono (Nat.le_refl _))
    exact (h1.trans (H2.out.2.2.mono hs1)).trans (HB2.out.mono (Nat.le_trans hs1 hs2))
  have hfo : ∀ x ∈ foot w2.heap.size mb' (.slice A' N cap'), w.heap.size ≤ x := by
    intro x hx
    simp only [foot, List.mem_cons, Option.mem_toList] at hx
    rcases hx with rfl | rfl | hx
    · omega
    · exact Nat.le_trans hs1 H2.out.2.1
    · exact H1.out.2.1 x hx
  have HFO := Bx.mk (And.intro hbw hfo)
  have HF : Bx (HeapAt (w2.alloc (.cells #[.slice A' N cap', .map (some mb'), .func (.func fi) #[] #[], .int .i64 (mv : Int)] 71)) w2.heap.size mb' (.slice A' N cap') L mo mv) := ⟨⟨by rw [HAV.out]; exact hblk, hrow2, by rw [HN.out]; exact H2.out.1.below HB2.out, HH.out.two, HH.out.txt⟩⟩
  clear hrow2 hblk hbw hfo H1 H2 hb1 hb2 hs1 hs2 HB2 kc km
  go_wp2_with fail
  go_ret
  exact ⟨_, mb', _, rfl, HF.out, HFO.out⟩
end Go.Proofs.YtlodgmmhaolmaaaDoor
