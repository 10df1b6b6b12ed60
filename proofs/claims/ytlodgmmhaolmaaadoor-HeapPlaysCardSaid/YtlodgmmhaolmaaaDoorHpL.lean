/- num.Log; live, changed. -/
import Derived.Test.YtlodgmmhaolmaaaDoorHpK
import Derived.Test.YtlodgmmhaolmaaaDoorShelf
set_option linter.unusedSimpArgs false
set_option linter.unusedVariables false
namespace Go.Proofs.YtlodgmmhaolmaaaDoor
open Go.RowKit
def logH (n : Int) : Int := if n < 1 then 0 else (Lib.bitLen n.toNat : Int) - 1
theorem bitLenH (n : Int) (h : 1 ≤ n) (h1 : n ≤ 9223372036854775807) : 1 ≤ Lib.bitLen n.toNat ∧ Lib.bitLen n.toNat ≤ 63 := by
  have h2 := Lib.bitLen_half n.toNat (by omega) (by show n.toNat < 18446744073709551616; omega)
  have h3 := Lib.bitLen_le n.toNat 63 (by decide) (by show n.toNat < 9223372036854775808; omega)
  omega
/-- few moves: no more than the logarithm -/
theorem log_ge {n m : Nat} (h : 2 ^ m ≤ n) (hn : n ≤ 9223372036854775807) : (m : Int) ≤ logH n := by
  have hn1 : 1 ≤ n := Nat.le_trans Nat.one_le_two_pow h
  unfold logH
  rw [if_neg (by omega)]
  rw [Int.toNat_natCast]
  have hm := Lib.bitLen_shift m n h (by show n < 18446744073709551616; omega)
  have hq : 1 ≤ n / 2 ^ m := (Nat.le_div_iff_mul_le (Nat.two_pow_pos m)).2 (by rw [Nat.one_mul]; exact h)
  have hq2 : n / 2 ^ m ≤ n := Nat.div_le_self _ _
  have hh := Lib.bitLen_half (n / 2 ^ m) (by omega) (by show n / 2 ^ m < 18446744073709551616; omega)
  omega
abbrev liveL : List Ent := [(1, [97]), (2, [98]), (3, [99])]
theorem live_bld : bldH true liveL = ([(3, [99]), (2, [98]), (1, [97])], 1) := by decide
theorem live_two : NoTwice liveL := by unfold NoTwice; decide
theorem live_find : ∀ k, k < 3 → findE (liveL.take k) (atE liveL k).2 = none := by decide
set_option maxHeartbeats 2000000 in
set_option maxRecDepth 100000 in
theorem hlive_any (w : World) : Calls Tryd.prog 11 #[] w fun e w' => e = .returned (.bool true) ∧ Below w.heap.size w w' := by
  have hk := heap_alloc_new w (.cells #[.int .i64 1, strV [97], .int .i64 2, strV [98], .int .i64 3, strV [99]] 27)
  have hrow : EntRow (w.alloc (.cells #[.int .i64 1, strV [97], .int .i64 2, strV [98], .int .i64 3, strV [99]] 27)) (some ⟨w.heap.size, 0, none⟩) 3 liveL := by
    refine ⟨rfl, fun _ => ⟨_, _, rfl, fun i hi => ?_⟩⟩
    match i, hi with
    | 0, _ => exact ⟨cells_at hk 0 _ rfl, cells_at hk 1 _ rfl⟩
    | 1, _ => exact ⟨cells_at hk 2 _ rfl, cells_at hk 3 _ rfl⟩
    | 2, _ => exact ⟨cells_at hk 4 _ rfl, cells_at hk 5 _ rfl⟩
  have kb := build_loop true (some ⟨w.heap.size, 0, none⟩) 3 3 liveL _ hrow (fun e he => by
    simp only [liveL, List.mem_cons, List.not_mem_nil, or_false] at he
    rcases he with rfl | rfl | rfl <;> decide) (by decide) (by decide) (fun e => by cases e)
  rw [live_bld] at kb
  clear hk hrow
  go_enter Tryd.func11, Tryd.ntmps11
  go_wp2_with fail
  refine kb.mono ?_
  rintro e w1 (⟨k, hk, _, hf, _⟩ | ⟨_, hb, mb, v, rfl, hH, hbl, hfo⟩)
  · exact absurd (live_find k hk) hf
  have hbw : Below w.heap.size w w1 := (below1 w (.cells #[.int .i64 1, strV [97], .int .i64 2, strV [98], .int .i64 3, strV [99]] 27)).trans (hbl.mono (by simp))
  have HH : Bx _ := ⟨And.intro hH hbw⟩
  have kt := top_some hb mb v _ true 1 w1 hH (by decide)
  clear kb hbl hfo hbw hH
  go_wp2_with fail
  refine kt.mono ?_
  rintro e w2 ⟨rfl, h2⟩
  have HH2 : Bx _ := ⟨And.intro (HH.out.1.below h2) (HH.out.2.trans (h2.mono HH.out.2.size))⟩
  have kl := len_any hb mb v _ true 1 _ (HH2.out.1.below (below1 w2 (.cells #[.int .i64 3, strV [99]] 27)))
  have km := moves_any hb mb v _ true 1 _ (HH2.out.1.below (below1 w2 (.cells #[.int .i64 3, strV [99]] 27)))
  clear h2 kt
  go_wp2_with (first | (go_at_call 34; refine kl.mono ?_; rintro e w' ⟨rfl, rfl⟩) | (go_at_call 35; refine km.mono ?_; rintro e w' ⟨rfl, rfl⟩))
  go_ret
  exact ⟨rfl, HH2.out.2.trans ((below1 w2 _).mono HH2.out.2.size)⟩
end Go.Proofs.YtlodgmmhaolmaaaDoor
