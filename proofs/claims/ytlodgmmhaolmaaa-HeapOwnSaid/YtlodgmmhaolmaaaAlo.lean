/- weirmem.Book.Alone, where entries alone were kept: out of aloneEntries' contract. -/
import Derived.Test.YtlodgmmhaolmaaaBk
import Derived.Deep.Cut
import Derived.Laws.Tables
set_option linter.unusedSimpArgs false
set_option linter.unusedVariables false
namespace Go.Proofs.Ytlodgmmhaolmaaa
open Go.RowKit
theorem turned_row (w : World) (g : Nat) (cs : Array Value) : Turned [g] w (w.setRow g cs) := ⟨rfl, rfl, rfl, by simp, fun k _ hn => setRow_other w g k cs (fun e => hn (by simp [e]))⟩
set_option maxHeartbeats 8000000 in
set_option maxRecDepth 100000 in
theorem alone_book (b : Nat) (v : Value) (w : World) (Q : World → Prop) (hv : ∃ A n c, v = .slice A n c) (hb : w.heap[b]? = some (.cells #[.slice none 0 0, .slice none 0 0, .slice none 0 0, .slice none 0 0, .slice none 0 0, .slice none 0 0, .slice none 0 0, .slice none 0 0, .slice none 0 0, .slice none 0 0, .slice none 0 0, .slice none 0 0, v, .slice none 0 0, .slice none 0 0, .slice none 0 0, .slice none 0 0, .slice none 0 0, .slice none 0 0, .slice none 0 0, .slice none 0 0, .slice none 0 0, .slice none 0 0, .slice none 0 0, .slice none 0 0, .slice none 0 0, .slice none 0 0, .slice none 0 0] 81 (0, 0)))
    (kE : Calls Try.prog 54 #[.pointer (some ⟨b, 0, none⟩)] w fun e w' => e = .returned (.bool true) ∧ Bx (Q w') ∧ w'.heap[b]? = w.heap[b]?) :
    Calls Try.prog 27 #[.pointer (some ⟨b, 0, none⟩)] w fun e w' => e = .returned (.bool true) ∧ ∃ w1, Q w1 ∧ Turned [b] w1 w' := by
  obtain ⟨A, n, c, rfl⟩ := hv
  have k0 := alone_Bytes b w (cells_at hb 0 _ rfl)
  have k1 := alone_Texts b w (cells_at hb 1 _ rfl)
  have k2 := alone_Ints b w (cells_at hb 2 _ rfl)
  have k3 := alone_Int64s b w (cells_at hb 3 _ rfl)
  have k4 := alone_Uint64s b w (cells_at hb 4 _ rfl)
  have k5 := alone_Tags b w (cells_at hb 5 _ rfl)
  have k6 := alone_Fields b w (cells_at hb 6 _ rfl)
  have k7 := alone_Samples b w (cells_at hb 7 _ rfl)
  have k8 := alone_Nodes b w (cells_at hb 8 _ rfl)
  have k9 := alone_Labels b w (cells_at hb 9 _ rfl)
  have k10 := alone_Accs b w (cells_at hb 10 _ rfl)
  have k11 := alone_Inses b w (cells_at hb 11 _ rfl)
  have k13 : ∀ x, x.heap[b]? = w.heap[b]? → Calls Try.prog 55 #[.pointer (some ⟨b, 0, none⟩)] x fun e w' => e = .returned (.bool true) ∧ x = w' := fun x hx => alone_Told b x (cells_at (hx.trans hb) 13 _ rfl)
  have k14 : ∀ x, x.heap[b]? = w.heap[b]? → Calls Try.prog 56 #[.pointer (some ⟨b, 0, none⟩)] x fun e w' => e = .returned (.bool true) ∧ x = w' := fun x hx => alone_Tokens b x (cells_at (hx.trans hb) 14 _ rfl)
  have k15 : ∀ x, x.heap[b]? = w.heap[b]? → Calls Try.prog 57 #[.pointer (some ⟨b, 0, none⟩)] x fun e w' => e = .returned (.bool true) ∧ x = w' := fun x hx => alone_Slots b x (cells_at (hx.trans hb) 15 _ rfl)
  have k16 : ∀ x, x.heap[b]? = w.heap[b]? → Calls Try.prog 58 #[.pointer (some ⟨b, 0, none⟩)] x fun e w' => e = .returned (.bool true) ∧ x = w' := fun x hx => alone_Fates b x (cells_at (hx.trans hb) 16 _ rfl)
  have k17 : ∀ x, x.heap[b]? = w.heap[b]? → Calls Try.prog 59 #[.pointer (some ⟨b, 0, none⟩)] x fun e w' => e = .returned (.bool true) ∧ x = w' := fun x hx => alone_Points b x (cells_at (hx.trans hb) 17 _ rfl)
  have k18 : ∀ x, x.heap[b]? = w.heap[b]? → Calls Try.prog 60 #[.pointer (some ⟨b, 0, none⟩)] x fun e w' => e = .returned (.bool true) ∧ x = w' := fun x hx => alone_Writes b x (cells_at (hx.trans hb) 18 _ rfl)
  have k19 : ∀ x, x.heap[b]? = w.heap[b]? → Calls Try.prog 61 #[.pointer (some ⟨b, 0, none⟩)] x fun e w' => e = .returned (.bool true) ∧ x = w' := fun x hx => alone_Deltas b x (cells_at (hx.trans hb) 19 _ rfl)
  have k20 : ∀ x, x.heap[b]? = w.heap[b]? → Calls Try.prog 62 #[.pointer (some ⟨b, 0, none⟩)] x fun e w' => e = .returned (.bool true) ∧ x = w' := fun x hx => alone_SeriesList b x (cells_at (hx.trans hb) 20 _ rfl)
  have k21 : ∀ x, x.heap[b]? = w.heap[b]? → Calls Try.prog 63 #[.pointer (some ⟨b, 0, none⟩)] x fun e w' => e = .returned (.bool true) ∧ x = w' := fun x hx => alone_Items b x (cells_at (hx.trans hb) 21 _ rfl)
  have k22 : ∀ x, x.heap[b]? = w.heap[b]? → Calls Try.prog 64 #[.pointer (some ⟨b, 0, none⟩)] x fun e w' => e = .returned (.bool true) ∧ x = w' := fun x hx => alone_Tables b x (cells_at (hx.trans hb) 22 _ rfl)
  have k23 : ∀ x, x.heap[b]? = w.heap[b]? → Calls Try.prog 65 #[.pointer (some ⟨b, 0, none⟩)] x fun e w' => e = .returned (.bool true) ∧ x = w' := fun x hx => alone_Outs b x (cells_at (hx.trans hb) 23 _ rfl)
  have k24 : ∀ x, x.heap[b]? = w.heap[b]? → Calls Try.prog 66 #[.pointer (some ⟨b, 0, none⟩)] x fun e w' => e = .returned (.bool true) ∧ x = w' := fun x hx => alone_TextLists b x (cells_at (hx.trans hb) 24 _ rfl)
  have k25 : ∀ x, x.heap[b]? = w.heap[b]? → Calls Try.prog 67 #[.pointer (some ⟨b, 0, none⟩)] x fun e w' => e = .returned (.bool true) ∧ x = w' := fun x hx => alone_Cells b x (cells_at (hx.trans hb) 25 _ rfl)
  have k26 : ∀ x, x.heap[b]? = w.heap[b]? → Calls Try.prog 68 #[.pointer (some ⟨b, 0, none⟩)] x fun e w' => e = .returned (.bool true) ∧ x = w' := fun x hx => alone_Rows b x (cells_at (hx.trans hb) 26 _ rfl)
  have k27 : ∀ x, x.heap[b]? = w.heap[b]? → Calls Try.prog 69 #[.pointer (some ⟨b, 0, none⟩)] x fun e w' => e = .returned (.bool true) ∧ x = w' := fun x hx => alone_Images b x (cells_at (hx.trans hb) 27 _ rfl)
  have HB := Bx.mk hb
  clear hb
  go_enter Try.func27, Try.ntmps27
  go_upto_region 2 with (first | (go_at_call 42; refine k0.mono ?_; rintro e w' ⟨rfl, rfl⟩) | (go_at_call 43; refine k1.mono ?_; rintro e w' ⟨rfl, rfl⟩) | (go_at_call 44; refine k2.mono ?_; rintro e w' ⟨rfl, rfl⟩) | (go_at_call 45; refine k3.mono ?_; rintro e w' ⟨rfl, rfl⟩) | (go_at_call 46; refine k4.mono ?_; rintro e w' ⟨rfl, rfl⟩) | (go_at_call 47; refine k5.mono ?_; rintro e w' ⟨rfl, rfl⟩) | (go_at_call 48; refine k6.mono ?_; rintro e w' ⟨rfl, rfl⟩) | (go_at_call 49; refine k7.mono ?_; rintro e w' ⟨rfl, rfl⟩) | (go_at_call 50; refine k8.mono ?_; rintro e w' ⟨rfl, rfl⟩) | (go_at_call 51; refine k9.mono ?_; rintro e w' ⟨rfl, rfl⟩) | (go_at_call 52; refine k10.mono ?_; rintro e w' ⟨rfl, rfl⟩) | (go_at_call 53; refine k11.mono ?_; rintro e w' ⟨rfl, rfl⟩) | (go_at_call 54; refine kE.mono ?_; rintro e w1 ⟨rfl, HQ, hb1⟩; have HB1 := Bx.mk hb1) | (go_at_call 55; refine (k13 _ HB1.out).mono ?_; rintro e w' ⟨rfl, rfl⟩) | (go_at_call 56; refine (k14 _ HB1.out).mono ?_; rintro e w' ⟨rfl, rfl⟩) | (go_at_call 57; refine (k15 _ HB1.out).mono ?_; rintro e w' ⟨rfl, rfl⟩) | (go_at_call 58; refine (k16 _ HB1.out).mono ?_; rintro e w' ⟨rfl, rfl⟩) | (go_at_call 59; refine (k17 _ HB1.out).mono ?_; rintro e w' ⟨rfl, rfl⟩) | (go_at_call 60; refine (k18 _ HB1.out).mono ?_; rintro e w' ⟨rfl, rfl⟩) | (go_at_call 61; refine (k19 _ HB1.out).mono ?_; rintro e w' ⟨rfl, rfl⟩) | (go_at_call 62; refine (k20 _ HB1.out).mono ?_; rintro e w' ⟨rfl, rfl⟩) | (go_at_call 63; refine (k21 _ HB1.out).mono ?_; rintro e w' ⟨rfl, rfl⟩) | (go_at_call 64; refine (k22 _ HB1.out).mono ?_; rintro e w' ⟨rfl, rfl⟩) | (go_at_call 65; refine (k23 _ HB1.out).mono ?_; rintro e w' ⟨rfl, rfl⟩) | (go_at_call 66; refine (k24 _ HB1.out).mono ?_; rintro e w' ⟨rfl, rfl⟩) | (go_at_call 67; refine (k25 _ HB1.out).mono ?_; rintro e w' ⟨rfl, rfl⟩) | (go_at_call 68; refine (k26 _ HB1.out).mono ?_; rintro e w' ⟨rfl, rfl⟩) | (go_at_call 69; refine (k27 _ HB1.out).mono ?_; rintro e w' ⟨rfl, rfl⟩))
  have hrow := HB1.out.trans HB.out
  have HT := Bx.mk (turned_row w1 b #[.slice none 0 0, .slice none 0 0, .slice none 0 0, .slice none 0 0, .slice none 0 0, .slice none 0 0, .slice none 0 0, .slice none 0 0, .slice none 0 0, .slice none 0 0, .slice none 0 0, .slice none 0 0, .slice none 0 0, .slice none 0 0, .slice none 0 0, .slice none 0 0, .slice none 0 0, .slice none 0 0, .slice none 0 0, .slice none 0 0, .slice none 0 0, .slice none 0 0, .slice none 0 0, .slice none 0 0, .slice none 0 0, .slice none 0 0, .slice none 0 0, .slice none 0 0])
  clear HB1 HB k0 k1 k2 k3 k4 k5 k6 k7 k8 k9 k10 k11 k13 k14 k15 k16 k17 k18 k19 k20 k21 k22 k23 k24 k25 k26 k27 kE
  go_wp2_with (refine wpList_store_row rfl _ _ _ rfl b #[.slice none 0 0, .slice none 0 0, .slice none 0 0, .slice none 0 0, .slice none 0 0, .slice none 0 0, .slice none 0 0, .slice none 0 0, .slice none 0 0, .slice none 0 0, .slice none 0 0, .slice none 0 0, .slice none 0 0, .slice none 0 0, .slice none 0 0, .slice none 0 0, .slice none 0 0, .slice none 0 0, .slice none 0 0, .slice none 0 0, .slice none 0 0, .slice none 0 0, .slice none 0 0, .slice none 0 0, .slice none 0 0, .slice none 0 0, .slice none 0 0, .slice none 0 0] rfl rfl _ _ hrow (by kernel_rfl) rfl (by kernel_rfl) ?_)
  go_ret
  exact ⟨rfl, w1, HQ.out, HT.out⟩
end Go.Proofs.Ytlodgmmhaolmaaa
