/- weirmem.Book.Alone, where rows of ints alone were kept: out of aloneInts' contract. -/
import Derived.Test.YtbcajmkmadgbhaaGreatDoorAln
import Derived.Deep.Cut
import Derived.Laws.Tables
set_option linter.unusedSimpArgs false
set_option linter.unusedVariables false
namespace Go.Proofs.YtbcajmkmadgbhaaGreatDoor
open Go.RowKit
theorem turned_row (w : World) (g : Nat) (cs : Array Value) : Turned [g] w (w.setRow g cs) := ⟨rfl, rfl, rfl, by simp, fun k _ hn => setRow_other w g k cs (fun e => hn (by simp [e]))⟩
/-- a book of ints alone -/
abbrev bookI (v : Value) : Array Value := #[.slice none 0 0, .slice none 0 0, v, .slice none 0 0, .slice none 0 0, .slice none 0 0, .slice none 0 0, .slice none 0 0, .slice none 0 0, .slice none 0 0, .slice none 0 0, .slice none 0 0, .slice none 0 0, .slice none 0 0, .slice none 0 0, .slice none 0 0, .slice none 0 0, .slice none 0 0, .slice none 0 0, .slice none 0 0, .slice none 0 0, .slice none 0 0, .slice none 0 0, .slice none 0 0, .slice none 0 0, .slice none 0 0, .slice none 0 0, .slice none 0 0]
set_option maxHeartbeats 8000000 in
set_option maxRecDepth 100000 in
theorem alone_book (b : Nat) (v : Value) (w : World) (Q : World → Prop) (hv : ∃ A n c, v = .slice A n c) (T : TypeId) (hb : w.heap[b]? = some (.cells (bookI v) T (0, 0)))
    (kE : Calls Tryz.prog 36 #[.pointer (some ⟨b, 0, none⟩)] w fun e w' => e = .returned (.bool true) ∧ Bx (Q w') ∧ w'.heap[b]? = w.heap[b]?) :
    Calls Tryz.prog 11 #[.pointer (some ⟨b, 0, none⟩)] w fun e w' => e = .returned (.bool true) ∧ ∃ w1, Q w1 ∧ Turned [b] w1 w' := by
  obtain ⟨A, n, c, rfl⟩ := hv
  have k0 := alone_Bytes b w (cells_at hb 0 _ rfl)
  have k1 := alone_Texts b w (cells_at hb 1 _ rfl)
  have k3 : ∀ x, x.heap[b]? = w.heap[b]? → Calls Tryz.prog 37 #[.pointer (some ⟨b, 0, none⟩)] x fun e w' => e = .returned (.bool true) ∧ x = w' := fun x hx => alone_Int64s b x (cells_at (hx.trans hb) 3 _ rfl)
  have k4 : ∀ x, x.heap[b]? = w.heap[b]? → Calls Tryz.prog 38 #[.pointer (some ⟨b, 0, none⟩)] x fun e w' => e = .returned (.bool true) ∧ x = w' := fun x hx => alone_Uint64s b x (cells_at (hx.trans hb) 4 _ rfl)
  have k5 : ∀ x, x.heap[b]? = w.heap[b]? → Calls Tryz.prog 39 #[.pointer (some ⟨b, 0, none⟩)] x fun e w' => e = .returned (.bool true) ∧ x = w' := fun x hx => alone_Tags b x (cells_at (hx.trans hb) 5 _ rfl)
  have k6 : ∀ x, x.heap[b]? = w.heap[b]? → Calls Tryz.prog 40 #[.pointer (some ⟨b, 0, none⟩)] x fun e w' => e = .returned (.bool true) ∧ x = w' := fun x hx => alone_Fields b x (cells_at (hx.trans hb) 6 _ rfl)
  have k7 : ∀ x, x.heap[b]? = w.heap[b]? → Calls Tryz.prog 41 #[.pointer (some ⟨b, 0, none⟩)] x fun e w' => e = .returned (.bool true) ∧ x = w' := fun x hx => alone_Samples b x (cells_at (hx.trans hb) 7 _ rfl)
  have k8 : ∀ x, x.heap[b]? = w.heap[b]? → Calls Tryz.prog 42 #[.pointer (some ⟨b, 0, none⟩)] x fun e w' => e = .returned (.bool true) ∧ x = w' := fun x hx => alone_Nodes b x (cells_at (hx.trans hb) 8 _ rfl)
  have k9 : ∀ x, x.heap[b]? = w.heap[b]? → Calls Tryz.prog 43 #[.pointer (some ⟨b, 0, none⟩)] x fun e w' => e = .returned (.bool true) ∧ x = w' := fun x hx => alone_Labels b x (cells_at (hx.trans hb) 9 _ rfl)
  have k10 : ∀ x, x.heap[b]? = w.heap[b]? → Calls Tryz.prog 44 #[.pointer (some ⟨b, 0, none⟩)] x fun e w' => e = .returned (.bool true) ∧ x = w' := fun x hx => alone_Accs b x (cells_at (hx.trans hb) 10 _ rfl)
  have k11 : ∀ x, x.heap[b]? = w.heap[b]? → Calls Tryz.prog 45 #[.pointer (some ⟨b, 0, none⟩)] x fun e w' => e = .returned (.bool true) ∧ x = w' := fun x hx => alone_Inses b x (cells_at (hx.trans hb) 11 _ rfl)
  have k12 : ∀ x, x.heap[b]? = w.heap[b]? → Calls Tryz.prog 46 #[.pointer (some ⟨b, 0, none⟩)] x fun e w' => e = .returned (.bool true) ∧ x = w' := fun x hx => alone_Entries b x (cells_at (hx.trans hb) 12 _ rfl)
  have k13 : ∀ x, x.heap[b]? = w.heap[b]? → Calls Tryz.prog 47 #[.pointer (some ⟨b, 0, none⟩)] x fun e w' => e = .returned (.bool true) ∧ x = w' := fun x hx => alone_Told b x (cells_at (hx.trans hb) 13 _ rfl)
  have k14 : ∀ x, x.heap[b]? = w.heap[b]? → Calls Tryz.prog 48 #[.pointer (some ⟨b, 0, none⟩)] x fun e w' => e = .returned (.bool true) ∧ x = w' := fun x hx => alone_Tokens b x (cells_at (hx.trans hb) 14 _ rfl)
  have k15 : ∀ x, x.heap[b]? = w.heap[b]? → Calls Tryz.prog 49 #[.pointer (some ⟨b, 0, none⟩)] x fun e w' => e = .returned (.bool true) ∧ x = w' := fun x hx => alone_Slots b x (cells_at (hx.trans hb) 15 _ rfl)
  have k16 : ∀ x, x.heap[b]? = w.heap[b]? → Calls Tryz.prog 50 #[.pointer (some ⟨b, 0, none⟩)] x fun e w' => e = .returned (.bool true) ∧ x = w' := fun x hx => alone_Fates b x (cells_at (hx.trans hb) 16 _ rfl)
  have k17 : ∀ x, x.heap[b]? = w.heap[b]? → Calls Tryz.prog 51 #[.pointer (some ⟨b, 0, none⟩)] x fun e w' => e = .returned (.bool true) ∧ x = w' := fun x hx => alone_Points b x (cells_at (hx.trans hb) 17 _ rfl)
  have k18 : ∀ x, x.heap[b]? = w.heap[b]? → Calls Tryz.prog 52 #[.pointer (some ⟨b, 0, none⟩)] x fun e w' => e = .returned (.bool true) ∧ x = w' := fun x hx => alone_Writes b x (cells_at (hx.trans hb) 18 _ rfl)
  have k19 : ∀ x, x.heap[b]? = w.heap[b]? → Calls Tryz.prog 53 #[.pointer (some ⟨b, 0, none⟩)] x fun e w' => e = .returned (.bool true) ∧ x = w' := fun x hx => alone_Deltas b x (cells_at (hx.trans hb) 19 _ rfl)
  have k20 : ∀ x, x.heap[b]? = w.heap[b]? → Calls Tryz.prog 54 #[.pointer (some ⟨b, 0, none⟩)] x fun e w' => e = .returned (.bool true) ∧ x = w' := fun x hx => alone_SeriesList b x (cells_at (hx.trans hb) 20 _ rfl)
  have k21 : ∀ x, x.heap[b]? = w.heap[b]? → Calls Tryz.prog 55 #[.pointer (some ⟨b, 0, none⟩)] x fun e w' => e = .returned (.bool true) ∧ x = w' := fun x hx => alone_Items b x (cells_at (hx.trans hb) 21 _ rfl)
  have k22 : ∀ x, x.heap[b]? = w.heap[b]? → Calls Tryz.prog 56 #[.pointer (some ⟨b, 0, none⟩)] x fun e w' => e = .returned (.bool true) ∧ x = w' := fun x hx => alone_Tables b x (cells_at (hx.trans hb) 22 _ rfl)
  have k23 : ∀ x, x.heap[b]? = w.heap[b]? → Calls Tryz.prog 57 #[.pointer (some ⟨b, 0, none⟩)] x fun e w' => e = .returned (.bool true) ∧ x = w' := fun x hx => alone_Outs b x (cells_at (hx.trans hb) 23 _ rfl)
  have k24 : ∀ x, x.heap[b]? = w.heap[b]? → Calls Tryz.prog 58 #[.pointer (some ⟨b, 0, none⟩)] x fun e w' => e = .returned (.bool true) ∧ x = w' := fun x hx => alone_TextLists b x (cells_at (hx.trans hb) 24 _ rfl)
  have k25 : ∀ x, x.heap[b]? = w.heap[b]? → Calls Tryz.prog 59 #[.pointer (some ⟨b, 0, none⟩)] x fun e w' => e = .returned (.bool true) ∧ x = w' := fun x hx => alone_Cells b x (cells_at (hx.trans hb) 25 _ rfl)
  have k26 : ∀ x, x.heap[b]? = w.heap[b]? → Calls Tryz.prog 60 #[.pointer (some ⟨b, 0, none⟩)] x fun e w' => e = .returned (.bool true) ∧ x = w' := fun x hx => alone_Rows b x (cells_at (hx.trans hb) 26 _ rfl)
  have k27 : ∀ x, x.heap[b]? = w.heap[b]? → Calls Tryz.prog 61 #[.pointer (some ⟨b, 0, none⟩)] x fun e w' => e = .returned (.bool true) ∧ x = w' := fun x hx => alone_Images b x (cells_at (hx.trans hb) 27 _ rfl)
  have HB := Bx.mk hb
  clear hb
  go_enter Tryz.func11, Tryz.ntmps11
  go_upto_region 2 with (first | (go_at_call 34; refine k0.mono ?_; rintro e w' ⟨rfl, rfl⟩) | (go_at_call 35; refine k1.mono ?_; rintro e w' ⟨rfl, rfl⟩) | (go_at_call 36; refine kE.mono ?_; rintro e w1 ⟨rfl, HQ, hb1⟩; have HB1 := Bx.mk hb1) | (go_at_call 37; refine (k3 _ HB1.out).mono ?_; rintro e w' ⟨rfl, rfl⟩) | (go_at_call 38; refine (k4 _ HB1.out).mono ?_; rintro e w' ⟨rfl, rfl⟩) | (go_at_call 39; refine (k5 _ HB1.out).mono ?_; rintro e w' ⟨rfl, rfl⟩) | (go_at_call 40; refine (k6 _ HB1.out).mono ?_; rintro e w' ⟨rfl, rfl⟩) | (go_at_call 41; refine (k7 _ HB1.out).mono ?_; rintro e w' ⟨rfl, rfl⟩) | (go_at_call 42; refine (k8 _ HB1.out).mono ?_; rintro e w' ⟨rfl, rfl⟩) | (go_at_call 43; refine (k9 _ HB1.out).mono ?_; rintro e w' ⟨rfl, rfl⟩) | (go_at_call 44; refine (k10 _ HB1.out).mono ?_; rintro e w' ⟨rfl, rfl⟩) | (go_at_call 45; refine (k11 _ HB1.out).mono ?_; rintro e w' ⟨rfl, rfl⟩) | (go_at_call 46; refine (k12 _ HB1.out).mono ?_; rintro e w' ⟨rfl, rfl⟩) | (go_at_call 47; refine (k13 _ HB1.out).mono ?_; rintro e w' ⟨rfl, rfl⟩) | (go_at_call 48; refine (k14 _ HB1.out).mono ?_; rintro e w' ⟨rfl, rfl⟩) | (go_at_call 49; refine (k15 _ HB1.out).mono ?_; rintro e w' ⟨rfl, rfl⟩) | (go_at_call 50; refine (k16 _ HB1.out).mono ?_; rintro e w' ⟨rfl, rfl⟩) | (go_at_call 51; refine (k17 _ HB1.out).mono ?_; rintro e w' ⟨rfl, rfl⟩) | (go_at_call 52; refine (k18 _ HB1.out).mono ?_; rintro e w' ⟨rfl, rfl⟩) | (go_at_call 53; refine (k19 _ HB1.out).mono ?_; rintro e w' ⟨rfl, rfl⟩) | (go_at_call 54; refine (k20 _ HB1.out).mono ?_; rintro e w' ⟨rfl, rfl⟩) | (go_at_call 55; refine (k21 _ HB1.out).mono ?_; rintro e w' ⟨rfl, rfl⟩) | (go_at_call 56; refine (k22 _ HB1.out).mono ?_; rintro e w' ⟨rfl, rfl⟩) | (go_at_call 57; refine (k23 _ HB1.out).mono ?_; rintro e w' ⟨rfl, rfl⟩) | (go_at_call 58; refine (k24 _ HB1.out).mono ?_; rintro e w' ⟨rfl, rfl⟩) | (go_at_call 59; refine (k25 _ HB1.out).mono ?_; rintro e w' ⟨rfl, rfl⟩) | (go_at_call 60; refine (k26 _ HB1.out).mono ?_; rintro e w' ⟨rfl, rfl⟩) | (go_at_call 61; refine (k27 _ HB1.out).mono ?_; rintro e w' ⟨rfl, rfl⟩))
  have hrow := HB1.out.trans HB.out
  have HT := Bx.mk (turned_row w1 b #[.slice none 0 0, .slice none 0 0, .slice none 0 0, .slice none 0 0, .slice none 0 0, .slice none 0 0, .slice none 0 0, .slice none 0 0, .slice none 0 0, .slice none 0 0, .slice none 0 0, .slice none 0 0, .slice none 0 0, .slice none 0 0, .slice none 0 0, .slice none 0 0, .slice none 0 0, .slice none 0 0, .slice none 0 0, .slice none 0 0, .slice none 0 0, .slice none 0 0, .slice none 0 0, .slice none 0 0, .slice none 0 0, .slice none 0 0, .slice none 0 0, .slice none 0 0])
  clear HB1 HB k0 k1 k3 k4 k5 k6 k7 k8 k9 k10 k11 k12 k13 k14 k15 k16 k17 k18 k19 k20 k21 k22 k23 k24 k25 k26 k27 kE
  go_wp2_with (refine wpList_store_row rfl _ _ _ rfl b #[.slice none 0 0, .slice none 0 0, .slice none 0 0, .slice none 0 0, .slice none 0 0, .slice none 0 0, .slice none 0 0, .slice none 0 0, .slice none 0 0, .slice none 0 0, .slice none 0 0, .slice none 0 0, .slice none 0 0, .slice none 0 0, .slice none 0 0, .slice none 0 0, .slice none 0 0, .slice none 0 0, .slice none 0 0, .slice none 0 0, .slice none 0 0, .slice none 0 0, .slice none 0 0, .slice none 0 0, .slice none 0 0, .slice none 0 0, .slice none 0 0, .slice none 0 0] rfl rfl _ _ hrow (by kernel_rfl) rfl (by kernel_rfl) ?_)
  go_ret
  exact ⟨rfl, w1, HQ.out, HT.out⟩
end Go.Proofs.YtbcajmkmadgbhaaGreatDoor
