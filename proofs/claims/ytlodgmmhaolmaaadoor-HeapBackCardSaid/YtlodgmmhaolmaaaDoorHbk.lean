/- The law HeapBack. -/
import Derived.Test.YtlodgmmhaolmaaaDoorHpV
import Derived.Test.YtlodgmmhaolmaaaDoorHpU
import Derived.Test.YtlodgmmhaolmaaaDoorHpL
set_option linter.unusedSimpArgs false
set_option linter.unusedVariables false
namespace Go.Proofs.YtlodgmmhaolmaaaDoor
open Go.RowKit
theorem EntRow.turned {S : List Nat} {w w' : World} {A : Option Addr} {n : Nat} {L : List Ent} (h : EntRow w A n L) (ht : Turned S w w') (hn : 0 < n → ∀ b off, A = some ⟨b, off, none⟩ → b ∉ S) : EntRow w' A n L where
  len := h.len
  row := fun h0 => by
    obtain ⟨b, off, e, hr⟩ := h.row h0
    exact ⟨b, off, e, fun i hi => ⟨ht.cell (hr i hi).1 (hn h0 b off e), ht.cell (hr i hi).2 (hn h0 b off e)⟩⟩
/-- Sorted of a heap that holds the same -/
theorem sorted_same {mo : Bool} {L M S T : List Ent} (hS : SrtE mo S) (hp : S.Perm L) (hT : SrtE mo T) (hq : T.Perm M) (hLM : L.Perm M) : T = S := srt_unique hT hS (hq.trans (hLM.symm.trans hp.symm))
/-- what Put's entry is, there -/
theorem put_there {mo : Bool} {L : List Ent} {r : Int} {s : List UInt8} (hf : findE L s = none) : ∃ i, findE (putH mo L (r, s)).1 s = some i ∧ atE (putH mo L (r, s)).1 i = (r, s) ∧ (takeH mo (putH mo L (r, s)).1 i).1.Perm L := by
  have hp := put_perm mo L (r, s)
  cases hi : findE (putH mo L (r, s)).1 s with
  | none => exact absurd rfl (findE_none hi (r, s) (hp.mem_iff.2 (by simp)))
  | some i =>
    obtain ⟨h1, h2⟩ := findE_some hi
    have hm : atE (putH mo L (r, s)).1 i ∈ (r, s) :: L := hp.mem_iff.1 (atE_mem h1)
    have he : atE (putH mo L (r, s)).1 i = (r, s) := by
      rcases List.mem_cons.1 hm with h | h
      · exact h
      · exact absurd h2 (findE_none hf _ h)
    refine ⟨i, rfl, he, ?_⟩
    have ht := take_perm mo (putH mo L (r, s)).1 i h1
    rw [he] at ht
    exact (List.perm_cons _).1 (ht.trans hp)
set_option maxHeartbeats 4000000 in
set_option maxRecDepth 100000 in
theorem hback_law (mo : Bool) (A : Option Addr) (n cap : Nat) (kd : Nat → Int) (en : Nat → Ent) (x1 : Nat → Int) (x2 : Nat → Bool) (x5 : Nat → Option Addr × Nat × Nat) (r : Int) (s : List UInt8) (w : World) (hG : Glob w) (ho : OpRow w A n kd en x1 x2 x5) (hs : s.length ≤ 9223372036854775807) (hn : (n + 2) * 24 ≤ 140737488355328) :
    Calls Tryd.prog 4 #[.slice A n cap, .agg #[.int .i64 r, strV s], .bool mo] w fun e w' => e = .returned (.bool true) ∧ Below w.heap.size w w' := by
  have hb0 := below1 w (.cells #[.int .i64 r, strV s] 27)
  have hbox := heap_alloc_new w (.cells #[.int .i64 r, strV s] 27)
  have kd := done_any mo A n cap kd en x1 x2 x5 (w.alloc (.cells #[.int .i64 r, strV s] 27)) (ho.below hb0) (by omega)
  have HG : Bx _ := ⟨hG⟩
  clear ho hG
  go_enter Tryd.func4, Tryd.ntmps4
  go_wp2_with fail
  refine kd.mono ?_
  rintro e w1 ⟨hb, mb, v, L, mv, rfl, h1⟩
  obtain ⟨B, hB⟩ : ∃ B, w.heap.size = B := ⟨_, rfl⟩
  have hB1 : B < w1.heap.size := by have := h1.b.size; simp at this; omega
  have hblk := (h1.b.block w.heap.size (by simp)).trans hbox
  have hbw : Below B w w1 := by rw [← hB]; exact hb0.trans (h1.b.mono (by simp))
  have hfoot : ∀ x ∈ foot hb mb v, B + 1 ≤ x := fun x hx => by have := h1.f x hx; simp at this; omega
  rw [hB] at hblk
  have HD : Bx _ := ⟨And.intro h1.h (And.intro hblk (And.intro hbw (And.intro hfoot h1.ok)))⟩
  have hL := h1.len
  have ks := sorted_any hb mb v L mo mv w1 h1.h (by omega)
  have HB : Bx (w.heap.size = B) := ⟨hB⟩
  simp only [hB]
  clear kd h1 hblk hbw hfoot hb0 hbox hB
  go_wp2_with fail
  refine ks.mono ?_
  rintro e w2 ⟨A1, cap1, S, rfl, hS⟩
  have HS : Bx _ := ⟨hS⟩
  have h2 := HD.out.1.below hS.b
  have hb2 := (hS.b.block B hB1).trans HD.out.2.1
  have c0 : w2.cell? ⟨B, 0, none⟩ = some (.int .i64 r) := cells_at hb2 0 _ rfl
  have c1 : w2.cell? ⟨B, 1, none⟩ = some (strV s) := cells_at hb2 1 _ rfl
  have hbw2 : Below B w w2 := HD.out.2.2.1.trans (hS.b.mono (by omega))
  have hB2 : B < w2.heap.size := by have := hS.b.size; omega
  cases hf : findE L s with
  | some i =>
    have kp := put_known hb mb v L mo mv r s w2 h2 hs i hf
    have HH : Bx _ := ⟨And.intro h2 hbw2⟩
    clear ks hS h2 hb2 hbw2
    go_wp2_with fail
    refine kp.mono ?_
    rintro e w3 ⟨rfl, hb3⟩
    have d1 : w3.cell? ⟨B, 1, none⟩ = some (strV s) := by rw [hb3.cell (by exact hB2)]; exact c1
    have kg := get_some hb mb v L mo mv s w3 (HH.out.1.below hb3) hs i hf
    have HK : Bx _ := ⟨hb3⟩
    clear kp c0 c1 hb3
    go_wp2_with fail
    refine kg.mono ?_
    rintro e w4 ⟨rfl, hb4⟩
    have HK4 : Bx _ := ⟨hb4⟩
    clear kg d1 hb4
    go_wp2_with fail
    refine (hlive_any _).mono ?_
    rintro e w5 ⟨rfl, hb5⟩
    have hW := below1 w4 (.cells #[.int .i64 (atE L i).1, strV (atE L i).2] 27)
    have hb25 : Below w2.heap.size w2 w5 := (HK.out.trans (HK4.out.mono HK.out.size)).trans ((hW.trans (hb5.mono (by simp))).mono (Nat.le_trans HK.out.size HK4.out.size))
    have hG5 : Glob w5 := (HG.out.below (HH.out.2.trans (hb25.mono (by omega))) (by rw [← HB.out]; exact HG.out.lt))
    have HK5 : Bx _ := ⟨hb25⟩
    clear hb5 hW hb25
    go_wp2_with fail
    refine (is_E 5 5 _ hG5 (by decide) rfl).mono ?_
    rintro e w6 ⟨rfl, hb6⟩
    have HK6 : Bx _ := ⟨HK5.out.trans (hb6.mono HK5.out.size)⟩
    have ks2 := sorted_any hb mb v L mo mv w6 (HH.out.1.below HK6.out) (by omega)
    clear hb6 hG5
    go_wp2_with fail
    refine ks2.mono ?_
    rintro e w7 ⟨A2, cap2, S2, rfl, hS2⟩
    have hST := sorted_same HS.out.srt HS.out.p hS2.srt hS2.p (List.Perm.refl L)
    have hb27 : Below w2.heap.size w2 w7 := HK6.out.trans (hS2.b.mono HK6.out.size)
    have kk := hsame_any A2 A1 L.length cap2 cap1 S w7 (by rw [← hST]; exact hS2.row) (HS.out.row.below hb27) (by omega)
    have HK7 : Bx _ := ⟨hb27⟩
    clear ks2 hS2 hST hb27
    go_wp2_with fail
    refine kk.mono ?_
    rintro e w8 ⟨rfl, hb8⟩
    have HK8 : Bx (Below w.heap.size w w8) := ⟨by rw [HB.out]; exact HH.out.2.trans ((HK7.out.trans (hb8.mono HK7.out.size)).mono (by omega))⟩
    clear kk hb8
    go_wp2
    go_ret
    exact ⟨rfl, HK8.out⟩
  | none =>
    obtain ⟨i, hi, he, hpm⟩ := put_there (mo := mo) (r := r) hf
    have kp := put_new hb mb v L mo mv r s w2 h2 hs hf (by omega)
    have HH : Bx _ := ⟨And.intro h2 hbw2⟩
    clear ks hS h2 hb2 hbw2
    go_wp2_with fail
    refine kp.mono ?_
    rintro e w3 ⟨rfl, v3, ht3⟩
    have hfB : B ∉ foot hb mb v := fun h => by have := HD.out.2.2.2.1 B h; omega
    have d0 : w3.cell? ⟨B, 0, none⟩ = some (.int .i64 r) := ht3.t.cell c0 hfB
    have d1 : w3.cell? ⟨B, 1, none⟩ = some (strV s) := ht3.t.cell c1 hfB
    have hlen : (putH mo L (r, s)).1.length = L.length + 1 := by rw [putH_len]
    have kt := take_some hb mb v3 _ mo _ L.length s w3 ht3.h hs i hi hlen (by omega)
    rw [he] at kt
    have hf3 : ∀ x ∈ foot hb mb v3, B + 1 ≤ x := fun x hx => by
      rcases foot_step ht3.r x hx with h | h
      · exact HD.out.2.2.2.1 x h
      · omega
    have HK : Bx _ := ⟨And.intro ht3 hf3⟩
    clear kp c0 c1 ht3 hf3
    go_wp2_with fail
    refine kt.mono ?_
    rintro e w4 ⟨rfl, v4, ht4⟩
    have hfB3 : B ∉ foot hb mb v3 := fun h => by have := HK.out.2 B h; omega
    have e0 : w4.cell? ⟨B, 0, none⟩ = some (.int .i64 r) := ht4.t.cell d0 hfB3
    have e1 : w4.cell? ⟨B, 1, none⟩ = some (strV s) := ht4.t.cell d1 hfB3
    have ht24 : Turned (foot hb mb v) w2 w4 := HK.out.1.t.step ht4.t (foot_step HK.out.1.r)
    have HK4 : Bx _ := ⟨And.intro ht4 ht24⟩
    clear kt d0 d1 ht4 ht24
    go_wp2_with fail
    have hW := below1 w4 (.cells #[.int .i64 r, strV s] 27)
    have hcc := box_cells w4 r s 27
    refine (hlive_any _).mono ?_
    rintro e w5 ⟨rfl, hb5⟩
    have hb45 : Below w4.heap.size w4 w5 := hW.trans (hb5.mono (by simp))
    have g0 : w5.cell? ⟨w4.heap.size, 0, none⟩ = some (.int .i64 r) := by rw [hb5.cell (cell_lt hcc.1)]; exact hcc.1
    have g1 : w5.cell? ⟨w4.heap.size, 1, none⟩ = some (strV s) := by rw [hb5.cell (cell_lt hcc.2)]; exact hcc.2
    have hB4 : B < w4.heap.size := cell_lt e0
    have f0 : w5.cell? ⟨B, 0, none⟩ = some (.int .i64 r) := by rw [hb45.cell hB4]; exact e0
    have f1 : w5.cell? ⟨B, 1, none⟩ = some (strV s) := by rw [hb45.cell hB4]; exact e1
    have hln : (takeH mo (putH mo L (r, s)).1 i).1.length = L.length := hpm.length_eq
    have ks2 := sorted_any hb mb v4 _ mo _ w5 (HK4.out.1.h.below hb45) (by rw [hln]; omega)
    rw [hln] at ks2
    have HK5 : Bx _ := ⟨hb45⟩
    clear hb5 hW hcc hb45 e0 e1
    obtain ⟨B4, hB4'⟩ : ∃ B4, w4.heap.size = B4 := ⟨_, rfl⟩
    rw [hB4'] at g0 g1
    simp only [hB4']
    clear hB4'
    go_wp2_with fail
    refine ks2.mono ?_
    rintro e w7 ⟨A2, cap2, S2, rfl, hS2⟩
    have hST := sorted_same HS.out.srt HS.out.p hS2.srt hS2.p hpm.symm
    have ht27 : Turned (foot hb mb v) w2 w7 := HK4.out.2.trans (Turned.ofBelow (HK5.out.trans (hS2.b.mono HK5.out.size)))
    have hrow2 := hS2.row
    rw [hln, hST] at hrow2
    have kk := hsame_any A2 A1 L.length cap2 cap1 S w7 hrow2 (HS.out.row.turned ht27 (fun h0 b off e hm => by
      obtain ⟨g, hg, hge⟩ := HS.out.new h0
      rw [hg] at e
      injection e with e
      injection e with e
      subst e
      have := HD.out.1.footLt _ hm
      omega)) (by omega)
    have HK7 : Bx _ := ⟨ht27⟩
    clear ks2 hS2 hST ht27 hrow2
    go_wp2_with fail
    refine kk.mono ?_
    rintro e w8 ⟨rfl, hb8⟩
    have HK8 : Bx (Below w.heap.size w w8) := ⟨by rw [HB.out]; exact HH.out.2.trans ((HK7.out.trans (Turned.ofBelow hb8)).below (fun x hx => by have := HD.out.2.2.2.1 x hx; omega) (by omega))⟩
    clear kk hb8
    go_wp2
    go_ret
    exact ⟨rfl, HK8.out⟩
end Go.Proofs.YtlodgmmhaolmaaaDoor
