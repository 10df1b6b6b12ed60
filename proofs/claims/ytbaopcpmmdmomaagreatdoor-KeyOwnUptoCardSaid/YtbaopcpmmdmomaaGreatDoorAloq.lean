/- weirmem.Book.Alone, where rows of texts and rows of tags alone were kept: out of aloneTexts' and aloneTags' contracts. -/
import Derived.Test.YtbaopcpmmdmomaaGreatDoorAln
import Derived.Test.YtbaopcpmmdmomaaGreatDoorGra
import Derived.Deep.Cut
import Derived.Laws.Tables
set_option linter.unusedSimpArgs false
set_option linter.unusedVariables false
namespace Go.Proofs.YtbaopcpmmdmomaaGreatDoor
open Go.RowKit
theorem turned_row (w : World) (g : Nat) (cs : Array Value) : Turned [g] w (w.setRow g cs) := ⟨rfl, rfl, rfl, by simp, fun k _ hn => setRow_other w g k cs (fun e => hn (by simp [e]))⟩
/-- a book of texts and tags alone -/
abbrev bookTG (u v : Value) : Array Value := #[.slice none 0 0, u, .slice none 0 0, .slice none 0 0, .slice none 0 0, v, .slice none 0 0, .slice none 0 0, .slice none 0 0, .slice none 0 0, .slice none 0 0, .slice none 0 0, .slice none 0 0, .slice none 0 0, .slice none 0 0, .slice none 0 0, .slice none 0 0, .slice none 0 0, .slice none 0 0, .slice none 0 0, .slice none 0 0, .slice none 0 0, .slice none 0 0, .slice none 0 0, .slice none 0 0, .slice none 0 0, .slice none 0 0, .slice none 0 0]
set_option maxHeartbeats 8000000 in
set_option maxRecDepth 100000 in
theorem alone_book2 (b : Nat) (u v : Value) (w : World) (Q1 Q2 : World → Prop) (hu : ∃ A n c, u = .slice A n c) (hv : ∃ A n c, v = .slice A n c) (T : TypeId) (hb : w.heap[b]? = some (.cells (bookTG u v) T (0, 0)))
    (kT : Calls Tryz.prog 27 #[.pointer (some ⟨b, 0, none⟩)] w fun e w' => e = .returned (.bool true) ∧ Bx (Q1 w') ∧ w'.heap[b]? = w.heap[b]?)
    (kG : ∀ x, Q1 x → x.heap[b]? = w.heap[b]? → Calls Tryz.prog 31 #[.pointer (some ⟨b, 0, none⟩)] x fun e w' => e = .returned (.bool true) ∧ Bx (Q2 w') ∧ w'.heap[b]? = w.heap[b]?) :
    Calls Tryz.prog 13 #[.pointer (some ⟨b, 0, none⟩)] w fun e w' => e = .returned (.bool true) ∧ ∃ w1, Q2 w1 ∧ Turned [b] w1 w' := by
  obtain ⟨A, n, c, rfl⟩ := hu
  obtain ⟨A', n', c', rfl⟩ := hv
  have k0 := alone_Bytes b w (cells_at hb 0 _ rfl)
  have k2 : ∀ x, x.heap[b]? = w.heap[b]? → Calls Tryz.prog 28 #[.pointer (some ⟨b, 0, none⟩)] x fun e w' => e = .returned (.bool true) ∧ x = w' := fun x hx => alone_Ints b x (cells_at (hx.trans hb) 2 _ rfl)
  have k3 : ∀ x, x.heap[b]? = w.heap[b]? → Calls Tryz.prog 29 #[.pointer (some ⟨b, 0, none⟩)] x fun e w' => e = .returned (.bool true) ∧ x = w' := fun x hx => alone_Int64s b x (cells_at (hx.trans hb) 3 _ rfl)
  have k4 : ∀ x, x.heap[b]? = w.heap[b]? → Calls Tryz.prog 30 #[.pointer (some ⟨b, 0, none⟩)] x fun e w' => e = .returned (.bool true) ∧ x = w' := fun x hx => alone_Uint64s b x (cells_at (hx.trans hb) 4 _ rfl)
  have k6 : ∀ x, x.heap[b]? = w.heap[b]? → Calls Tryz.prog 32 #[.pointer (some ⟨b, 0, none⟩)] x fun e w' => e = .returned (.bool true) ∧ x = w' := fun x hx => alone_Fields b x (cells_at (hx.trans hb) 6 _ rfl)
  have k7 : ∀ x, x.heap[b]? = w.heap[b]? → Calls Tryz.prog 33 #[.pointer (some ⟨b, 0, none⟩)] x fun e w' => e = .returned (.bool true) ∧ x = w' := fun x hx => alone_Samples b x (cells_at (hx.trans hb) 7 _ rfl)
  have k8 : ∀ x, x.heap[b]? = w.heap[b]? → Calls Tryz.prog 34 #[.pointer (some ⟨b, 0, none⟩)] x fun e w' => e = .returned (.bool true) ∧ x = w' := fun x hx => alone_Nodes b x (cells_at (hx.trans hb) 8 _ rfl)
  have k9 : ∀ x, x.heap[b]? = w.heap[b]? → Calls Tryz.prog 35 #[.pointer (some ⟨b, 0, none⟩)] x fun e w' => e = .returned (.bool true) ∧ x = w' := fun x hx => alone_Labels b x (cells_at (hx.trans hb) 9 _ rfl)
  have k10 : ∀ x, x.heap[b]? = w.heap[b]? → Calls Tryz.prog 36 #[.pointer (some ⟨b, 0, none⟩)] x fun e w' => e = .returned (.bool true) ∧ x = w' := fun x hx => alone_Accs b x (cells_at (hx.trans hb) 10 _ rfl)
  have k11 : ∀ x, x.heap[b]? = w.heap[b]? → Calls Tryz.prog 37 #[.pointer (some ⟨b, 0, none⟩)] x fun e w' => e = .returned (.bool true) ∧ x = w' := fun x hx => alone_Inses b x (cells_at (hx.trans hb) 11 _ rfl)
  have k12 : ∀ x, x.heap[b]? = w.heap[b]? → Calls Tryz.prog 38 #[.pointer (some ⟨b, 0, none⟩)] x fun e w' => e = .returned (.bool true) ∧ x = w' := fun x hx => alone_Entries b x (cells_at (hx.trans hb) 12 _ rfl)
  have k13 : ∀ x, x.heap[b]? = w.heap[b]? → Calls Tryz.prog 39 #[.pointer (some ⟨b, 0, none⟩)] x fun e w' => e = .returned (.bool true) ∧ x = w' := fun x hx => alone_Told b x (cells_at (hx.trans hb) 13 _ rfl)
  have k14 : ∀ x, x.heap[b]? = w.heap[b]? → Calls Tryz.prog 40 #[.pointer (some ⟨b, 0, none⟩)] x fun e w' => e = .returned (.bool true) ∧ x = w' := fun x hx => alone_Tokens b x (cells_at (hx.trans hb) 14 _ rfl)
  have k15 : ∀ x, x.heap[b]? = w.heap[b]? → Calls Tryz.prog 41 #[.pointer (some ⟨b, 0, none⟩)] x fun e w' => e = .returned (.bool true) ∧ x = w' := fun x hx => alone_Slots b x (cells_at (hx.trans hb) 15 _ rfl)
  have k16 : ∀ x, x.heap[b]? = w.heap[b]? → Calls Tryz.prog 42 #[.pointer (some ⟨b, 0, none⟩)] x fun e w' => e = .returned (.bool true) ∧ x = w' := fun x hx => alone_Fates b x (cells_at (hx.trans hb) 16 _ rfl)
  have k17 : ∀ x, x.heap[b]? = w.heap[b]? → Calls Tryz.prog 43 #[.pointer (some ⟨b, 0, none⟩)] x fun e w' => e = .returned (.bool true) ∧ x = w' := fun x hx => alone_Points b x (cells_at (hx.trans hb) 17 _ rfl)
  have k18 : ∀ x, x.heap[b]? = w.heap[b]? → Calls Tryz.prog 44 #[.pointer (some ⟨b, 0, none⟩)] x fun e w' => e = .returned (.bool true) ∧ x = w' := fun x hx => alone_Writes b x (cells_at (hx.trans hb) 18 _ rfl)
  have k19 : ∀ x, x.heap[b]? = w.heap[b]? → Calls Tryz.prog 45 #[.pointer (some ⟨b, 0, none⟩)] x fun e w' => e = .returned (.bool true) ∧ x = w' := fun x hx => alone_Deltas b x (cells_at (hx.trans hb) 19 _ rfl)
  have k20 : ∀ x, x.heap[b]? = w.heap[b]? → Calls Tryz.prog 46 #[.pointer (some ⟨b, 0, none⟩)] x fun e w' => e = .returned (.bool true) ∧ x = w' := fun x hx => alone_SeriesList b x (cells_at (hx.trans hb) 20 _ rfl)
  have k21 : ∀ x, x.heap[b]? = w.heap[b]? → Calls Tryz.prog 47 #[.pointer (some ⟨b, 0, none⟩)] x fun e w' => e = .returned (.bool true) ∧ x = w' := fun x hx => alone_Items b x (cells_at (hx.trans hb) 21 _ rfl)
  have k22 : ∀ x, x.heap[b]? = w.heap[b]? → Calls Tryz.prog 48 #[.pointer (some ⟨b, 0, none⟩)] x fun e w' => e = .returned (.bool true) ∧ x = w' := fun x hx => alone_Tables b x (cells_at (hx.trans hb) 22 _ rfl)
  have k23 : ∀ x, x.heap[b]? = w.heap[b]? → Calls Tryz.prog 49 #[.pointer (some ⟨b, 0, none⟩)] x fun e w' => e = .returned (.bool true) ∧ x = w' := fun x hx => alone_Outs b x (cells_at (hx.trans hb) 23 _ rfl)
  have k24 : ∀ x, x.heap[b]? = w.heap[b]? → Calls Tryz.prog 50 #[.pointer (some ⟨b, 0, none⟩)] x fun e w' => e = .returned (.bool true) ∧ x = w' := fun x hx => alone_TextLists b x (cells_at (hx.trans hb) 24 _ rfl)
  have k25 : ∀ x, x.heap[b]? = w.heap[b]? → Calls Tryz.prog 51 #[.pointer (some ⟨b, 0, none⟩)] x fun e w' => e = .returned (.bool true) ∧ x = w' := fun x hx => alone_Cells b x (cells_at (hx.trans hb) 25 _ rfl)
  have k26 : ∀ x, x.heap[b]? = w.heap[b]? → Calls Tryz.prog 52 #[.pointer (some ⟨b, 0, none⟩)] x fun e w' => e = .returned (.bool true) ∧ x = w' := fun x hx => alone_Rows b x (cells_at (hx.trans hb) 26 _ rfl)
  have k27 : ∀ x, x.heap[b]? = w.heap[b]? → Calls Tryz.prog 53 #[.pointer (some ⟨b, 0, none⟩)] x fun e w' => e = .returned (.bool true) ∧ x = w' := fun x hx => alone_Images b x (cells_at (hx.trans hb) 27 _ rfl)
  have HB := Bx.mk hb
  clear hb
  go_enter Tryz.func13, Tryz.ntmps13
  go_upto_region 2 with (first | (go_at_call 26; refine k0.mono ?_; rintro e w' ⟨rfl, rfl⟩) | (go_at_call 27; refine kT.mono ?_; rintro e w1 ⟨rfl, HQ1, hb1⟩; have HB1 := Bx.mk hb1) | (go_at_call 28; refine (k2 _ HB1.out).mono ?_; rintro e w' ⟨rfl, rfl⟩) | (go_at_call 29; refine (k3 _ HB1.out).mono ?_; rintro e w' ⟨rfl, rfl⟩) | (go_at_call 30; refine (k4 _ HB1.out).mono ?_; rintro e w' ⟨rfl, rfl⟩) | (go_at_call 31; refine (kG _ HQ1.out HB1.out).mono ?_; rintro e w2 ⟨rfl, HQ2, hb2⟩; have HB2 := Bx.mk hb2) | (go_at_call 32; refine (k6 _ HB2.out).mono ?_; rintro e w' ⟨rfl, rfl⟩) | (go_at_call 33; refine (k7 _ HB2.out).mono ?_; rintro e w' ⟨rfl, rfl⟩) | (go_at_call 34; refine (k8 _ HB2.out).mono ?_; rintro e w' ⟨rfl, rfl⟩) | (go_at_call 35; refine (k9 _ HB2.out).mono ?_; rintro e w' ⟨rfl, rfl⟩) | (go_at_call 36; refine (k10 _ HB2.out).mono ?_; rintro e w' ⟨rfl, rfl⟩) | (go_at_call 37; refine (k11 _ HB2.out).mono ?_; rintro e w' ⟨rfl, rfl⟩) | (go_at_call 38; refine (k12 _ HB2.out).mono ?_; rintro e w' ⟨rfl, rfl⟩) | (go_at_call 39; refine (k13 _ HB2.out).mono ?_; rintro e w' ⟨rfl, rfl⟩) | (go_at_call 40; refine (k14 _ HB2.out).mono ?_; rintro e w' ⟨rfl, rfl⟩) | (go_at_call 41; refine (k15 _ HB2.out).mono ?_; rintro e w' ⟨rfl, rfl⟩) | (go_at_call 42; refine (k16 _ HB2.out).mono ?_; rintro e w' ⟨rfl, rfl⟩) | (go_at_call 43; refine (k17 _ HB2.out).mono ?_; rintro e w' ⟨rfl, rfl⟩) | (go_at_call 44; refine (k18 _ HB2.out).mono ?_; rintro e w' ⟨rfl, rfl⟩) | (go_at_call 45; refine (k19 _ HB2.out).mono ?_; rintro e w' ⟨rfl, rfl⟩) | (go_at_call 46; refine (k20 _ HB2.out).mono ?_; rintro e w' ⟨rfl, rfl⟩) | (go_at_call 47; refine (k21 _ HB2.out).mono ?_; rintro e w' ⟨rfl, rfl⟩) | (go_at_call 48; refine (k22 _ HB2.out).mono ?_; rintro e w' ⟨rfl, rfl⟩) | (go_at_call 49; refine (k23 _ HB2.out).mono ?_; rintro e w' ⟨rfl, rfl⟩) | (go_at_call 50; refine (k24 _ HB2.out).mono ?_; rintro e w' ⟨rfl, rfl⟩) | (go_at_call 51; refine (k25 _ HB2.out).mono ?_; rintro e w' ⟨rfl, rfl⟩) | (go_at_call 52; refine (k26 _ HB2.out).mono ?_; rintro e w' ⟨rfl, rfl⟩) | (go_at_call 53; refine (k27 _ HB2.out).mono ?_; rintro e w' ⟨rfl, rfl⟩))
  have hrow := HB2.out.trans HB.out
  have HT := Bx.mk (turned_row w2 b #[.slice none 0 0, .slice none 0 0, .slice none 0 0, .slice none 0 0, .slice none 0 0, .slice none 0 0, .slice none 0 0, .slice none 0 0, .slice none 0 0, .slice none 0 0, .slice none 0 0, .slice none 0 0, .slice none 0 0, .slice none 0 0, .slice none 0 0, .slice none 0 0, .slice none 0 0, .slice none 0 0, .slice none 0 0, .slice none 0 0, .slice none 0 0, .slice none 0 0, .slice none 0 0, .slice none 0 0, .slice none 0 0, .slice none 0 0, .slice none 0 0, .slice none 0 0])
  clear HB1 HB2 HB HQ1 k0 k2 k3 k4 k6 k7 k8 k9 k10 k11 k12 k13 k14 k15 k16 k17 k18 k19 k20 k21 k22 k23 k24 k25 k26 k27 kT kG
  go_wp2_with (refine wpList_store_row rfl _ _ _ rfl b #[.slice none 0 0, .slice none 0 0, .slice none 0 0, .slice none 0 0, .slice none 0 0, .slice none 0 0, .slice none 0 0, .slice none 0 0, .slice none 0 0, .slice none 0 0, .slice none 0 0, .slice none 0 0, .slice none 0 0, .slice none 0 0, .slice none 0 0, .slice none 0 0, .slice none 0 0, .slice none 0 0, .slice none 0 0, .slice none 0 0, .slice none 0 0, .slice none 0 0, .slice none 0 0, .slice none 0 0, .slice none 0 0, .slice none 0 0, .slice none 0 0, .slice none 0 0] rfl rfl _ _ hrow (by kernel_rfl) rfl (by kernel_rfl) ?_)
  go_ret
  exact ⟨rfl, w2, HQ2.out, HT.out⟩
end Go.Proofs.YtbaopcpmmdmomaaGreatDoor
