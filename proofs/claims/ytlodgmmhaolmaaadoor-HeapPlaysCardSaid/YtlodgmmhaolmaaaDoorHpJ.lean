/- The heap: Clone of entries; Pop. -/
import Derived.Test.YtlodgmmhaolmaaaDoorHpI
import Derived.Deep.DeepAppendWide
set_option linter.unusedSimpArgs false
set_option linter.unusedVariables false
namespace Go.Proofs.YtlodgmmhaolmaaaDoor
open Go.RowKit
/-- a row of entries that is only read -/
structure EntRow (w : World) (A : Option Addr) (n : Nat) (L : List Ent) : Prop where
  len : L.length = n
  row : 0 < n → ∃ b off, A = some ⟨b, off, none⟩ ∧ ∀ i, i < n → w.cell? ⟨b, off + i * 2, none⟩ = some (.int .i64 (atE L i).1) ∧ w.cell? ⟨b, off + i * 2 + 1, none⟩ = some (strV (atE L i).2)
theorem EntRow.below {w w' : World} {A : Option Addr} {n : Nat} {L : List Ent} (h : EntRow w A n L) (hb : Below w.heap.size w w') : EntRow w' A n L where
  len := h.len
  row := fun hn => by
    obtain ⟨b, off, e, hr⟩ := h.row hn
    exact ⟨b, off, e, fun i hi => ⟨by rw [hb.cell (cell_lt (hr i hi).1)]; exact (hr i hi).1, by rw [hb.cell (cell_lt (hr i hi).2)]; exact (hr i hi).2⟩⟩
theorem EntRow.cells {w : World} {b off n : Nat} {L : List Ent} (hl : L.length = n) (hr : ∀ i, i < n → w.cell? ⟨b, off + i * 2, none⟩ = some (.int .i64 (atE L i).1) ∧ w.cell? ⟨b, off + i * 2 + 1, none⟩ = some (strV (atE L i).2)) :
    ∀ (j : Nat) (u : Value), (entC L)[j]? = some u → w.cell? ((⟨b, off, none⟩ : Addr).add j) = some u := fun j u hj => by
  have hlt := (List.getElem?_eq_some_iff.1 hj).1
  rw [entC_len, hl] at hlt
  have hi : j / 2 < n := by omega
  have g := entC_get L (j / 2) (by omega)
  have p := hr (j / 2) hi
  rw [Go.WideShapes.add_plain]
  rcases Nat.mod_two_eq_zero_or_one j with hm | hm
  · have e : j / 2 * 2 = j := by omega
    rw [e] at g p
    rw [hj] at g
    rw [p.1, ← g.1]
  · have e : j / 2 * 2 + 1 = j := by omega
    rw [e] at g
    rw [Nat.add_assoc, e] at p
    rw [hj] at g
    rw [p.2, ← g.2]
theorem rowE_own {w : World} {b n : Nat} {v : Value} {L : List Ent} (h : w.ownsRow b 27 2 v n (entC L)) (hn : n = L.length) : RowE w v L ∧ ∀ g, rowB v = some g → b ≤ g := by
  subst hn
  have h' := own_base h
  obtain ⟨h1, ⟨rfl, h0⟩ | ⟨g, cap, cur, rfl, hb, hg, hc, r⟩⟩ := h
  · have hL : L = [] := List.length_eq_zero_iff.1 h0
    subst hL
    exact ⟨Or.inr ⟨rfl, none, rfl⟩, fun g e => by cases e⟩
  · cases cap with
    | zero =>
      have hL : L = [] := List.length_eq_zero_iff.1 (by omega)
      subst hL
      exact ⟨Or.inr ⟨rfl, _, rfl⟩, fun g e => by cases e⟩
    | succ c => exact ⟨RowE.mk h' rfl (by omega), fun x e => by injection e with e; rw [← e]; exact hb⟩
set_option maxHeartbeats 2000000 in
set_option maxRecDepth 100000 in
theorem eclone_any (A : Option Addr) (n cap : Nat) (L : List Ent) (w : World) (hr : EntRow w A n L) (hb : n * 24 ≤ 225179981352000) (hnone : A = none → n = 0 ∧ cap = 0) :
    Calls Tryd.prog 40 #[.slice A n cap] w fun e w' => ∃ v', e = .returned v' ∧ RowE w' v' L ∧ Below w.heap.size w w' ∧ ∀ g, rowB v' = some g → w.heap.size ≤ g := by
  cases A with
  | none =>
    obtain ⟨rfl, rfl⟩ := hnone rfl
    have hL : L = [] := List.length_eq_zero_iff.1 hr.len
    subst hL
    have ks := fun (w : World) => Lib.run_eql_slice_nil (P := Tryd.prog) w 30 27 none 0 0 0 0 Tryd.underlying30
    clear hr hnone hb
    go_enter Tryd.func40, Tryd.ntmps40
    go_wp2
    go_ret
    exact ⟨_, rfl, Or.inr ⟨rfl, none, rfl⟩, Below.refl _ _, fun g e => by cases e⟩
  | some ad =>
    have HB : Bx _ := ⟨hb⟩
    have HR : Bx _ := ⟨hr⟩
    have hnews : ∀ (j : Nat) (u : Value), (entC L)[j]? = some u → (w.alloc (.cells #[] 27)).cell? (ad.add j) = some u := fun j u hj => by
      have hlt := (List.getElem?_eq_some_iff.1 hj).1
      rw [entC_len, hr.len] at hlt
      obtain ⟨b, off, e, hc⟩ := (hr.below (below1 w (.cells #[] 27))).row (by omega)
      injection e with e
      subst e
      exact EntRow.cells hr.len hc j u hj
    have HN : Bx _ := ⟨hnews⟩
    have HO : Bx ((w.alloc (.cells #[] 27)).ownsRow w.heap.size 27 2 (.slice (some ⟨w.heap.size, 0, none⟩) 0 0) 0 []) := ⟨World.ownsRow_made w #[] 0 (Nat.le_refl _) (by decide) rfl⟩
    obtain ⟨i0, hi, hiz, hi1, hi2⟩ := infoE
    have HI0 : Bx _ := ⟨And.intro hi (And.intro hiz (And.intro hi1 hi2))⟩
    have ks := fun (w : World) => Lib.run_eql_slice_nil (P := Tryd.prog) w 30 27 (some ad) n cap 0 0 Tryd.underlying30
    clear hr hnone hb hnews hi hiz hi1 hi2
    go_enter Tryd.func40, Tryd.ntmps40
    go_wp2_with (at_builtin; refine wpList_append_own_wide _ rfl _ _ 30 rfl w.heap.size 27 i0 (.agg #[.int .i64 0, .string ⟨#[]⟩]) 2 24 Tryd.underlying30 HI0.out.1 HI0.out.2.1 HI0.out.2.2.1 HI0.out.2.2.2 rfl (by decide) _ 0 [] rfl HO.out ad n cap (entC L) rfl (by rw [entC_len, HR.out.len]) HN.out (entC_one L) (by have := HB.out; unfold maxLen; omega) (wideZ HB.out) (by simp) ?_; intro v' w2 hown hg hx; clear hx; have HK : Bx _ := ⟨And.intro hown hg⟩; clear hown hg)
    go_ret
    have ho := HK.out.1
    rw [Nat.zero_add, List.nil_append] at ho
    have hre := rowE_own ho HR.out.len.symm
    exact ⟨v', rfl, hre.1, (below1 w (.cells #[] 27)).trans (below_of_grown HK.out.2 (Nat.le_refl _) (by simp)), hre.2⟩
set_option maxHeartbeats 2000000 in
set_option maxRecDepth 100000 in
theorem pop_none (hb mb : Nat) (v : Value) (mo : Bool) (mv : Nat) (w : World) (hH : HeapAt w hb mb v [] mo mv) :
    Calls Tryd.prog 51 #[.pointer (some ⟨hb, 0, none⟩)] w fun e w' => e = .returned (.tuple #[.agg #[.int .i64 0, strV []], .iface 23 (.int .i64 4)]) ∧ Below w.heap.size w w' := by
  have kt := top_none hb mb v mo mv _ (hH.below (below1 w (.cells #[.int .i64 0, .string ⟨#[]⟩] 27)))
  clear hH
  go_enter Tryd.func51, Tryd.ntmps51
  go_wp2_with fail
  refine kt.mono ?_
  rintro e w1 ⟨rfl, h1⟩
  have hb1 := (below1 w (.cells #[.int .i64 0, .string ⟨#[]⟩] 27)).trans (h1.mono (by simp))
  have hk := (h1.block w.heap.size (by simp)).trans (heap_alloc_new w _)
  have z0 : w1.cell? ⟨w.heap.size, 0, none⟩ = some (.int .i64 0) := cells_at hk 0 _ rfl
  have z1 : w1.cell? ⟨w.heap.size, 1, none⟩ = some (.string ⟨#[]⟩) := cells_at hk 1 _ rfl
  have zf0 := cells_free hk 0
  have zf1 := cells_free hk 1
  have hlt := block_lt hk
  have HK : Bx _ := ⟨And.intro hk (And.intro hb1 hlt)⟩
  clear h1 hk hb1 kt
  go_wp2_with fail
  refine (fnew_any 4 _ (by decide)).mono ?_
  rintro e w2 ⟨rfl, rfl⟩
  go_wp2
  have hc := set2_cells HK.out.1 (.int .i64 0) (.string ⟨#[]⟩)
  have hbs := set2_below w1 w.heap.size (.int .i64 0) (.string ⟨#[]⟩) HK.out.2.1 (Nat.le_refl _)
  have hlt2 : w.heap.size < ((w1.setCell ⟨w.heap.size, 0, none⟩ (.int .i64 0)).setCell ⟨w.heap.size, 1, none⟩ (.string ⟨#[]⟩)).heap.size := by have := HK.out.2.2; simpa [World.setCell] using this
  generalize (w1.setCell ⟨w.heap.size, 0, none⟩ (.int .i64 0)).setCell ⟨w.heap.size, 1, none⟩ (.string ⟨#[]⟩) = w3 at *
  refine bodyPost_ret (results_ent rfl _ _ w.heap.size 0 [] _ rfl rfl ?_ ?_) rfl ⟨rfl, ?_⟩
  · rw [World.cell?_alloc_lt _ _ _ hlt2]; exact hc.1
  · rw [World.cell?_alloc_lt _ _ _ hlt2]; exact hc.2
  · exact hbs.trans ((below1 w3 _).mono hbs.size)
set_option maxHeartbeats 2000000 in
set_option maxRecDepth 100000 in
theorem pop_some (hb mb : Nat) (v : Value) (L : List Ent) (mo : Bool) (mv n : Nat) (w : World) (hH : HeapAt w hb mb v L mo mv) (hn : L.length = n + 1) (hL : n + 1 ≤ 1152921504606846976) :
    Calls Tryd.prog 51 #[.pointer (some ⟨hb, 0, none⟩)] w fun e w' => e = .returned (.tuple #[.agg #[.int .i64 (atE L 0).1, strV (atE L 0).2], .nilIface]) ∧ ∃ v', HeapTo w w' hb mb v v' (takeH mo L 0).1 mo (takeH mo L 0).2 := by
  have kt := top_some hb mb v L mo mv _ (hH.below (below1 w (.cells #[.int .i64 0, .string ⟨#[]⟩] 27))) (by omega)
  have HH : Bx _ := ⟨And.intro hH (And.intro hn hL)⟩
  obtain ⟨r, hr⟩ : ∃ x, (atE L 0).1 = x := ⟨_, rfl⟩
  obtain ⟨s, hs⟩ : ∃ x, (atE L 0).2 = x := ⟨_, rfl⟩
  have HRR : Bx ((atE L 0).1 = r ∧ (atE L 0).2 = s) := ⟨hr, hs⟩
  rw [hr, hs] at kt ⊢
  clear hH hn hL hr hs
  go_enter Tryd.func51, Tryd.ntmps51
  go_wp2_with fail
  refine kt.mono ?_
  rintro e w1 ⟨rfl, h1⟩
  have hb1 := (below1 w (.cells #[.int .i64 0, .string ⟨#[]⟩] 27)).trans (h1.mono (by simp))
  have hk := (h1.block w.heap.size (by simp)).trans (heap_alloc_new w _)
  have hb2 : Below w.heap.size w (w1.alloc (.cells #[.int .i64 r, strV s] 27)) := hb1.trans ((below1 w1 _).mono hb1.size)
  have hk2 := ((below1 w1 (.cells #[.int .i64 r, strV s] 27)).block w.heap.size (block_lt hk)).trans hk
  have ks := take_some hb mb v L mo mv n s _ (HH.out.1.below hb2) (by rw [← HRR.out.2]; exact HH.out.1.txt.at 0) 0 (by rw [← HRR.out.2]; exact findE_at HH.out.1.two (by rw [HH.out.2.1]; omega)) HH.out.2.1 HH.out.2.2
  rw [HRR.out.1, HRR.out.2] at ks
  have HK : Bx _ := ⟨And.intro hb2 hk2⟩
  have hlt := block_lt hk
  clear h1 hb1 hk hb2 hk2 kt
  go_wp2_with fail
  refine ks.mono ?_
  rintro e w2 ⟨rfl, v', ⟨h2, t2, hv2⟩⟩
  have hnf : w.heap.size ∉ foot hb mb v := by
    intro hx
    simp only [foot, List.mem_cons, Option.mem_toList] at hx
    rcases hx with hx | hx | hx
    · have := block_lt HH.out.1.blk; omega
    · have := HH.out.1.map.lt; omega
    · rcases HH.out.1.row with ⟨g, cap, h0, rfl, ho⟩ | ⟨_, A, rfl⟩
      · rw [rowB_pos h0] at hx
        injection hx with hx
        have := (own_cap ho).2.2
        omega
      · cases A <;> cases hx
  have hk3 := (t2.block w.heap.size (block_lt HK.out.2) hnf).trans HK.out.2
  have z0 : w2.cell? ⟨w.heap.size, 0, none⟩ = some (.int .i64 0) := cells_at hk3 0 _ rfl
  have z1 : w2.cell? ⟨w.heap.size, 1, none⟩ = some (.string ⟨#[]⟩) := cells_at hk3 1 _ rfl
  have zf0 := cells_free hk3 0
  have zf1 := cells_free hk3 1
  have H2 : Bx _ := ⟨And.intro h2 (And.intro t2 (And.intro hv2 (And.intro hk3 hnf)))⟩
  clear ks h2 t2 hv2 hk3 hnf
  go_wp2
  have hc := set2_cells H2.out.2.2.2.1 (.int .i64 r) (strV s)
  refine bodyPost_ret (results_ent rfl _ _ w.heap.size r s _ rfl rfl hc.1 hc.2) rfl ⟨rfl, v', ?_⟩
  have hts : Turned [w.heap.size] w2 ((w2.setCell ⟨w.heap.size, 0, none⟩ (.int .i64 r)).setCell ⟨w.heap.size, 1, none⟩ (strV s)) := (Turned.set _ 0 _).trans (Turned.set _ 1 _)
  have hsz := HK.out.1.size
  have hr' : rowB v' = rowB v ∨ ∀ g, rowB v' = some g → w.heap.size ≤ g := H2.out.2.2.1.imp id (fun h g e => Nat.le_trans hsz (h g e))
  have hnv : w.heap.size ∉ foot hb mb v' := by
    intro hx
    rcases foot_step (hb := hb) (mb := mb) (H2.out.2.2.1) _ hx with h | h
    · exact H2.out.2.2.2.2 h
    · simp at h; omega
  refine ⟨H2.out.1.kept hts (fun x hx => by obtain rfl : x = w.heap.size := by simpa using hx
                                            exact hnv), ?_, hr'⟩
  exact ((Turned.ofBelow HK.out.1).trans H2.out.2.1).step hts (fun x hx => Or.inr (by simp at hx; omega))
end Go.Proofs.YtlodgmmhaolmaaaDoor
