/- The walk of HeapMoves. -/
import Derived.Test.YtlodgmmhaolmaaaHpL
set_option linter.unusedSimpArgs false
set_option linter.unusedVariables false
namespace Go.Proofs.Ytlodgmmhaolmaaa
open Go.RowKit
/-- a row of a script's calls -/
structure OpRow (w : World) (A : Option Addr) (n : Nat) (kd : Nat → Int) (en : Nat → Ent) (x1 : Nat → Int) (x2 : Nat → Bool) (x5 : Nat → Option Addr × Nat × Nat) : Prop where
  row : 0 < n → ∃ b off, A = some ⟨b, off, none⟩ ∧ ∀ i, i < n → w.cell? ⟨b, off + i * 6, none⟩ = some (.int .i64 (kd i)) ∧ w.cell? ⟨b, off + i * 6 + 1, none⟩ = some (.int .i64 (x1 i)) ∧ w.cell? ⟨b, off + i * 6 + 2, none⟩ = some (.bool (x2 i)) ∧
    w.cell? ⟨b, off + i * 6 + 3, none⟩ = some (.int .i64 (en i).1) ∧ w.cell? ⟨b, off + i * 6 + 4, none⟩ = some (strV (en i).2) ∧ w.cell? ⟨b, off + i * 6 + 5, none⟩ = some (.slice (x5 i).1 (x5 i).2.1 (x5 i).2.2)
  txt : ∀ i, i < n → (en i).2.length ≤ 9223372036854775807
theorem OpRow.below {w w' : World} {A : Option Addr} {n : Nat} {kd : Nat → Int} {en : Nat → Ent} {x1 : Nat → Int} {x2 : Nat → Bool} {x5 : Nat → Option Addr × Nat × Nat} (h : OpRow w A n kd en x1 x2 x5) (hb : Below w.heap.size w w') : OpRow w' A n kd en x1 x2 x5 where
  row := fun hn => by
    obtain ⟨b, off, e, hr⟩ := h.row hn
    refine ⟨b, off, e, fun i hi => ?_⟩
    obtain ⟨a0, a1, a2, a3, a4, a5⟩ := hr i hi
    exact ⟨by rw [hb.cell (cell_lt a0)]; exact a0, by rw [hb.cell (cell_lt a1)]; exact a1, by rw [hb.cell (cell_lt a2)]; exact a2, by rw [hb.cell (cell_lt a3)]; exact a3, by rw [hb.cell (cell_lt a4)]; exact a4, by rw [hb.cell (cell_lt a5)]; exact a5⟩
  txt := h.txt
/-- a heap behind k calls: few moves -/
structure MovIn (w wr : World) (hb mb : Nat) (v : Value) (L : List Ent) (mv k : Nat) : Prop where
  h : HeapAt wr hb mb v L false mv
  b : Below w.heap.size w wr
  f : ∀ x ∈ foot hb mb v, w.heap.size ≤ x
  l : L.length ≤ k
  m : 2 ^ mv ≤ max L.length 1
theorem MovIn.step {w wr w' : World} {hb mb : Nat} {v : Value} {L : List Ent} {mv k : Nat} (h : MovIn w wr hb mb v L mv k) (hb' : Below wr.heap.size wr w') : MovIn w w' hb mb v L mv k :=
  ⟨h.h.below hb', h.b.trans (hb'.mono h.b.size), h.f, h.l, h.m⟩
theorem MovIn.more {w wr : World} {hb mb : Nat} {v : Value} {L : List Ent} {mv k j : Nat} (h : MovIn w wr hb mb v L mv k) (hj : k ≤ j) : MovIn w wr hb mb v L mv j := ⟨h.h, h.b, h.f, Nat.le_trans h.l hj, h.m⟩
theorem MovIn.to {w wr w' : World} {hb mb : Nat} {v v' : Value} {L L' : List Ent} {mv mv' k : Nat} (h : MovIn w wr hb mb v L mv k) (ht : HeapTo wr w' hb mb v v' L' false mv') (hl : L'.length ≤ k + 1) (hm : 2 ^ mv' ≤ max L'.length 1) : MovIn w w' hb mb v' L' mv' (k + 1) := by
  refine ⟨ht.h, h.b.trans (ht.t.below h.f h.b.size), fun x hx => ?_, hl, hm⟩
  rcases foot_step ht.r x hx with hx | hx
  · exact h.f x hx
  · exact Nat.le_trans h.b.size hx
theorem foot_nil {hb mb S : Nat} (h1 : S ≤ hb) (h2 : S ≤ mb) : ∀ x ∈ foot hb mb (.slice none 0 0), S ≤ x := by
  intro x hx
  simp only [foot, List.mem_cons, Option.mem_toList] at hx
  rcases hx with rfl | rfl | hx
  · exact h1
  · exact h2
  · cases hx
/-- what a change leaves of it -/
def MovTo (w wr : World) (hb mb : Nat) (v : Value) (k : Nat) (e : Ending) (w' : World) : Prop := ∃ x v' L' mv', e = .returned x ∧ MovIn w w' hb mb v' L' mv' k ∧ Turned (foot hb mb v) wr w'
theorem put_mov (w wr : World) (hb mb : Nat) (v : Value) (L : List Ent) (mv k : Nat) (r : Int) (s : List UInt8) (h : MovIn w wr hb mb v L mv k) (hs : s.length ≤ 9223372036854775807) (hk : (k + 1) * 24 ≤ 140737488355328) :
    Calls Try.prog 9 #[.pointer (some ⟨hb, 0, none⟩), .agg #[.int .i64 r, strV s]] wr (MovTo w wr hb mb v (k + 1)) := by
  have hl := h.l
  cases hf : findE L s with
  | some i => exact (put_known hb mb v L false mv r s wr h.h hs i hf).mono fun e w' ⟨he, hb'⟩ => ⟨_, v, L, mv, he, (h.step hb').more (by omega), Turned.ofBelow hb'⟩
  | none => exact (put_new hb mb v L false mv r s wr h.h hs hf (by omega)).mono fun e w' ⟨he, v', ht⟩ => ⟨_, v', _, _, he, h.to ht (by rw [putH_len]; omega) (by rw [putH_len]; have := putH_moves false L (r, s); omega), ht.t⟩
theorem take_mov (w wr : World) (hb mb : Nat) (v : Value) (L : List Ent) (mv k : Nat) (s : List UInt8) (h : MovIn w wr hb mb v L mv k) (hs : s.length ≤ 9223372036854775807) (hk : (k + 1) * 24 ≤ 140737488355328) :
    Calls Try.prog 10 #[.pointer (some ⟨hb, 0, none⟩), strV s] wr (MovTo w wr hb mb v (k + 1)) := by
  have hl := h.l
  cases hf : findE L s with
  | none => exact (take_none hb mb v L false mv s wr h.h hs hf).mono fun e w' ⟨he, hb'⟩ => ⟨_, v, L, mv, he, (h.step hb').more (by omega), Turned.ofBelow hb'⟩
  | some i =>
    have hi := (findE_some hf).1
    exact (take_some hb mb v L false mv (L.length - 1) s wr h.h hs i hf (by omega) (by omega)).mono fun e w' ⟨he, v', ht⟩ => ⟨_, v', _, _, he, h.to ht (by rw [takeH_len]; omega) (by rw [takeH_len]; exact takeH_moves false L i), ht.t⟩
theorem turn_mov (w wr : World) (hb mb : Nat) (v : Value) (L : List Ent) (mv k : Nat) (s : List UInt8) (r : Int) (h : MovIn w wr hb mb v L mv k) (hs : s.length ≤ 9223372036854775807) (hk : (k + 1) * 24 ≤ 140737488355328) :
    Calls Try.prog 11 #[.pointer (some ⟨hb, 0, none⟩), strV s, .int .i64 r] wr (MovTo w wr hb mb v (k + 1)) := by
  have hl := h.l
  cases hf : findE L s with
  | none => exact (turn_none hb mb v L false mv s r wr h.h hs hf).mono fun e w' ⟨he, hb'⟩ => ⟨_, v, L, mv, he, by subst hb'; exact h.more (by omega), by subst hb'; exact Turned.refl _ _⟩
  | some i =>
    have hi := (findE_some hf).1
    exact (turn_some hb mb v L false mv s r wr h.h hs i hf (by omega)).mono fun e w' ⟨he, ht⟩ => ⟨_, v, _, _, he, h.to ht (by rw [turnH_len]; omega) (by rw [turnH_len]; have := turnH_moves false L i r hi; omega), ht.t⟩
theorem pop_mov (w wr : World) (hb mb : Nat) (v : Value) (L : List Ent) (mv k : Nat) (h : MovIn w wr hb mb v L mv k) (hk : (k + 1) * 24 ≤ 140737488355328) :
    Calls Try.prog 12 #[.pointer (some ⟨hb, 0, none⟩)] wr (MovTo w wr hb mb v (k + 1)) := by
  have hl := h.l
  cases L with
  | nil => exact (pop_none hb mb v false mv wr h.h).mono fun e w' ⟨he, hb'⟩ => ⟨_, v, [], mv, he, (h.step hb').more (by omega), Turned.ofBelow hb'⟩
  | cons a q => exact (pop_some hb mb v (a :: q) false mv q.length wr h.h rfl (by simp only [List.length_cons] at hl; omega)).mono fun e w' ⟨he, v', ht⟩ => ⟨_, v', _, _, he, h.to ht (by rw [takeH_len]; omega) (by rw [takeH_len]; exact takeH_moves false (a :: q) 0), ht.t⟩
theorem HeapAt.footLt {w : World} {hb mb : Nat} {v : Value} {L : List Ent} {mo : Bool} {mv : Nat} (h : HeapAt w hb mb v L mo mv) : ∀ x ∈ foot hb mb v, x < w.heap.size := by
  intro x hx
  simp only [foot, List.mem_cons, Option.mem_toList] at hx
  rcases hx with rfl | rfl | hx
  · exact block_lt h.blk
  · exact h.map.lt
  · rcases h.row with ⟨g, cap, h0, rfl, ho⟩ | ⟨_, A, rfl⟩
    · rw [rowB_pos h0] at hx
      injection hx with hx
      rw [← hx]; exact (own_cap ho).2.2
    · cases A <;> cases hx
set_option maxHeartbeats 8000000 in
set_option maxRecDepth 100000 in
theorem moves_law (A1 : Option Addr) (n1 c1 : Nat) (kd : Nat → Int) (en : Nat → Ent) (x1 : Nat → Int) (x2 : Nat → Bool) (x5 : Nat → Option Addr × Nat × Nat) (A2 : Option Addr) (n2 c2 : Nat) (M : List Ent) (w : World) (ho : OpRow w A1 n1 kd en x1 x2 x5) (hn1 : (n1 + 1) * 24 ≤ 140737488355328)
    (hr : EntRow w A2 n2 M) (ht : Texts M) (hn2 : n2 * 24 ≤ 140737488355328) (hnone : A2 = none → n2 = 0 ∧ c2 = 0) :
    Calls Try.prog 3 #[.slice A1 n1 c1, .slice A2 n2 c2] w fun e w' => e = .returned (.bool true) ∧ Below w.heap.size w w' := by
  have HR : Bx _ := ⟨And.intro ho (And.intro hr (And.intro ht (And.intro hn1 (And.intro hn2 hnone))))⟩
  have kn := new_heap false w
  clear ho hr ht hnone
  go_enter Try.func3, Try.ntmps3
  go_wp2_with fail
  refine kn.mono ?_
  rintro e w1 ⟨hb, mb, rfl, h1, hbl, hb1, hb2⟩
  have HM1 : Bx (MovIn w w1 hb mb (.slice none 0 0) [] 0 0) := ⟨⟨h1, hbl, foot_nil hb1 hb2, Nat.le_refl _, by decide⟩⟩
  clear kn h1 hbl hb1 hb2
  go_wp2_with fail
  go_loopw [14] (fun i wr => ∃ k : Nat, i = .int .i64 k ∧ k ≤ n1 ∧ ∃ v L mv, Bx (MovIn w wr hb mb v L mv k)) (fun i _ => n1 - (intOf i).toNat)
  case atStart => exact ⟨0, rfl, by omega, _, _, _, HM1⟩
  case round =>
    obtain ⟨k, rfl, hk, v, L, mv, HI⟩ := hrel
    clear HM1
    by_cases hlt : k < n1
    · obtain ⟨b, off, rfl, hrow⟩ := (HR.out.1.below HI.out.b).row (by omega)
      obtain ⟨a0, a1, a2, a3, a4, a5⟩ := hrow k hlt
      have hts := HR.out.1.txt k hlt
      generalize kd k = K at *
      generalize (en k).1 = r at *
      generalize (en k).2 = s at *
      generalize x1 k = y1 at *
      generalize x2 k = y2 at *
      generalize x5 k = y5 at *
      obtain ⟨y5a, y5n, y5c⟩ := y5
      simp only at a5
      clear hrow
      go_upto_region 5 with (fail)
      change Code.wp _ _ _ _ (wr.alloc (.cells #[.int .i64 K, .int .i64 y1, .bool y2, .int .i64 r, strV s, .slice y5a y5n y5c] 29))
      have hbl := heap_alloc_new wr (.cells #[.int .i64 K, .int .i64 y1, .bool y2, .int .i64 r, strV s, .slice y5a y5n y5c] 29)
      have HI2 : Bx (MovIn w (wr.alloc (.cells #[.int .i64 K, .int .i64 y1, .bool y2, .int .i64 r, strV s, .slice y5a y5n y5c] 29)) hb mb v L mv k ∧ (wr.alloc (.cells #[.int .i64 K, .int .i64 y1, .bool y2, .int .i64 r, strV s, .slice y5a y5n y5c] 29)).heap[wr.heap.size]? = _) := ⟨HI.out.step (below1 _ _), hbl⟩
      have HNB : Bx (wr.heap.size ∉ foot hb mb v) := ⟨fun h => by have := HI.out.h.footLt _ h; omega⟩
      clear HI a0 a1 a2 a3 a4 a5 hbl
      generalize wr.alloc (.cells #[.int .i64 K, .int .i64 y1, .bool y2, .int .i64 r, strV s, .slice y5a y5n y5c] 29) = w2 at *
      obtain ⟨B, hB⟩ : ∃ B, wr.heap.size = B := ⟨_, rfl⟩
      rw [hB] at HI2 HNB
      simp only [hB]
      clear hB
      have q0 : w2.cell? ⟨B, 0, none⟩ = some (.int .i64 K) := cells_at HI2.out.2 0 _ rfl
      have q3 : w2.cell? ⟨B, 3, none⟩ = some (.int .i64 r) := cells_at HI2.out.2 3 _ rfl
      have q4 : w2.cell? ⟨B, 4, none⟩ = some (strV s) := cells_at HI2.out.2 4 _ rfl
      have kl0 := len_any hb mb v L false mv w2 HI2.out.1.h
      have hl0 := HI2.out.1.l
      obtain ⟨N0, hN0⟩ : ∃ N, L.length = N := ⟨_, rfl⟩
      rw [hN0] at kl0 hl0
      clear hN0
      go_upto_region 6 with (go_at_call 8; refine kl0.mono ?_; rintro e w' ⟨rfl, rfl⟩)
      clear kl0
      by_cases k0 : K = 0
      · have d0 : (K == 0) = true := by simpa using k0
        have d3 : K < 3 := by omega
        have kc := put_mov w w2 hb mb v L mv k r s HI2.out.1 hts (by omega)
        clear k0
        go_upto_region 14 with (go_at_call 9; refine kc.mono ?_; rintro e w3 ⟨x, v', L', mv', rfl, h3, t3⟩; have H3 : Bx _ := ⟨And.intro h3 (t3.block B (block_lt HI2.out.2) HNB.out)⟩; clear kc h3 t3)
        have z0 : w3.cell? ⟨B, 0, none⟩ = some (.int .i64 K) := cells_at (H3.out.2.trans HI2.out.2) 0 _ rfl
        have kl := len_any hb mb v' L' false mv' w3 H3.out.1.h
        have km := moves_any hb mb v' L' false mv' w3 H3.out.1.h
        obtain ⟨N2, hN2⟩ : ∃ N, L'.length = N := ⟨_, rfl⟩
        have HN2 : Bx (L'.length = N2) := ⟨hN2⟩
        have hl2 := H3.out.1.l
        have hm2 := H3.out.1.m
        rw [hN2] at kl hl2 hm2
        by_cases hmax : N0 < N2
        · have hgt : decide (N0 < N2) = true := decide_eq_true hmax
          have klog := hlog_any N2 w3 (by omega) (by omega)
          have hlg : ¬ logH N2 < (mv' : Int) := by have := log_ge (n := N2) (m := mv') (by omega) (by omega); omega
          generalize logH N2 = G at *
          clear hN2 hm2
          go_wp2_with (first | (go_at_call 8; refine kl.mono ?_; rintro e w' ⟨rfl, rfl⟩) | (go_at_call 13; refine km.mono ?_; rintro e w' ⟨rfl, rfl⟩) | (go_at_call 14; refine klog.mono ?_; rintro e w' ⟨rfl, rfl⟩))
          all_goals exact ⟨⟨k + 1, by rw [Int.natCast_succ], by omega, v', L', mv', ⟨H3.out.1⟩⟩, by simp only [intOf]; omega⟩
        · have hgt : decide (N0 < N2) = false := decide_eq_false hmax
          have klog := hlog_any N0 w3 (by omega) (by omega)
          have hlg : ¬ logH N0 < (mv' : Int) := by
            by_cases h0 : N0 = 0
            · have hN : N2 = 0 := by omega
              have : mv' = 0 := by
                rw [hN] at hm2
                cases mv' with
                | zero => rfl
                | succ j => have := Nat.pow_lt_pow_right (a := 2) (by decide) (show 0 < j + 1 by omega); omega
              rw [h0, this]; decide
            · have := log_ge (n := N0) (m := mv') (by omega) (by omega); omega
          generalize logH N0 = G at *
          clear hN2 hm2
          go_wp2_with (first | (go_at_call 8; refine kl.mono ?_; rintro e w' ⟨rfl, rfl⟩) | (go_at_call 13; refine km.mono ?_; rintro e w' ⟨rfl, rfl⟩) | (go_at_call 14; refine klog.mono ?_; rintro e w' ⟨rfl, rfl⟩))
          all_goals exact ⟨⟨k + 1, by rw [Int.natCast_succ], by omega, v', L', mv', ⟨H3.out.1⟩⟩, by simp only [intOf]; omega⟩
      · have d0 : (K == 0) = false := by simpa using k0
        by_cases k1 : K = 1
        · have d1 : (K == 1) = true := by simpa using k1
          have d3 : K < 3 := by omega
          have kc := take_mov w w2 hb mb v L mv k s HI2.out.1 hts (by omega)
          clear k0 k1
          go_upto_region 14 with (go_at_call 10; refine kc.mono ?_; rintro e w3 ⟨x, v', L', mv', rfl, h3, t3⟩; have H3 : Bx _ := ⟨And.intro h3 (t3.block B (block_lt HI2.out.2) HNB.out)⟩; clear kc h3 t3)
          have z0 : w3.cell? ⟨B, 0, none⟩ = some (.int .i64 K) := cells_at (H3.out.2.trans HI2.out.2) 0 _ rfl
          have kl := len_any hb mb v' L' false mv' w3 H3.out.1.h
          have km := moves_any hb mb v' L' false mv' w3 H3.out.1.h
          obtain ⟨N2, hN2⟩ : ∃ N, L'.length = N := ⟨_, rfl⟩
          have HN2 : Bx (L'.length = N2) := ⟨hN2⟩
          have hl2 := H3.out.1.l
          have hm2 := H3.out.1.m
          rw [hN2] at kl hl2 hm2
          by_cases hmax : N0 < N2
          · have hgt : decide (N0 < N2) = true := decide_eq_true hmax
            have klog := hlog_any N2 w3 (by omega) (by omega)
            have hlg : ¬ logH N2 < (mv' : Int) := by have := log_ge (n := N2) (m := mv') (by omega) (by omega); omega
            generalize logH N2 = G at *
            clear hN2 hm2
            go_wp2_with (first | (go_at_call 8; refine kl.mono ?_; rintro e w' ⟨rfl, rfl⟩) | (go_at_call 13; refine km.mono ?_; rintro e w' ⟨rfl, rfl⟩) | (go_at_call 14; refine klog.mono ?_; rintro e w' ⟨rfl, rfl⟩))
            all_goals exact ⟨⟨k + 1, by rw [Int.natCast_succ], by omega, v', L', mv', ⟨H3.out.1⟩⟩, by simp only [intOf]; omega⟩
          · have hgt : decide (N0 < N2) = false := decide_eq_false hmax
            have klog := hlog_any N0 w3 (by omega) (by omega)
            have hlg : ¬ logH N0 < (mv' : Int) := by
              by_cases h0 : N0 = 0
              · have hN : N2 = 0 := by omega
                have : mv' = 0 := by
                  rw [hN] at hm2
                  cases mv' with
                  | zero => rfl
                  | succ j => have := Nat.pow_lt_pow_right (a := 2) (by decide) (show 0 < j + 1 by omega); omega
                rw [h0, this]; decide
              · have := log_ge (n := N0) (m := mv') (by omega) (by omega); omega
            generalize logH N0 = G at *
            clear hN2 hm2
            go_wp2_with (first | (go_at_call 8; refine kl.mono ?_; rintro e w' ⟨rfl, rfl⟩) | (go_at_call 13; refine km.mono ?_; rintro e w' ⟨rfl, rfl⟩) | (go_at_call 14; refine klog.mono ?_; rintro e w' ⟨rfl, rfl⟩))
            all_goals exact ⟨⟨k + 1, by rw [Int.natCast_succ], by omega, v', L', mv', ⟨H3.out.1⟩⟩, by simp only [intOf]; omega⟩
        · have d1 : (K == 1) = false := by simpa using k1
          by_cases k2 : K = 2
          · have d2 : (K == 2) = true := by simpa using k2
            have d3 : K < 3 := by omega
            have kc := turn_mov w w2 hb mb v L mv k s r HI2.out.1 hts (by omega)
            clear k0 k1 k2
            go_upto_region 14 with (go_at_call 11; refine kc.mono ?_; rintro e w3 ⟨x, v', L', mv', rfl, h3, t3⟩; have H3 : Bx _ := ⟨And.intro h3 (t3.block B (block_lt HI2.out.2) HNB.out)⟩; clear kc h3 t3)
            have z0 : w3.cell? ⟨B, 0, none⟩ = some (.int .i64 K) := cells_at (H3.out.2.trans HI2.out.2) 0 _ rfl
            have kl := len_any hb mb v' L' false mv' w3 H3.out.1.h
            have km := moves_any hb mb v' L' false mv' w3 H3.out.1.h
            obtain ⟨N2, hN2⟩ : ∃ N, L'.length = N := ⟨_, rfl⟩
            have HN2 : Bx (L'.length = N2) := ⟨hN2⟩
            have hl2 := H3.out.1.l
            have hm2 := H3.out.1.m
            rw [hN2] at kl hl2 hm2
            by_cases hmax : N0 < N2
            · have hgt : decide (N0 < N2) = true := decide_eq_true hmax
              have klog := hlog_any N2 w3 (by omega) (by omega)
              have hlg : ¬ logH N2 < (mv' : Int) := by have := log_ge (n := N2) (m := mv') (by omega) (by omega); omega
              generalize logH N2 = G at *
              clear hN2 hm2
              go_wp2_with (first | (go_at_call 8; refine kl.mono ?_; rintro e w' ⟨rfl, rfl⟩) | (go_at_call 13; refine km.mono ?_; rintro e w' ⟨rfl, rfl⟩) | (go_at_call 14; refine klog.mono ?_; rintro e w' ⟨rfl, rfl⟩))
              all_goals exact ⟨⟨k + 1, by rw [Int.natCast_succ], by omega, v', L', mv', ⟨H3.out.1⟩⟩, by simp only [intOf]; omega⟩
            · have hgt : decide (N0 < N2) = false := decide_eq_false hmax
              have klog := hlog_any N0 w3 (by omega) (by omega)
              have hlg : ¬ logH N0 < (mv' : Int) := by
                by_cases h0 : N0 = 0
                · have hN : N2 = 0 := by omega
                  have : mv' = 0 := by
                    rw [hN] at hm2
                    cases mv' with
                    | zero => rfl
                    | succ j => have := Nat.pow_lt_pow_right (a := 2) (by decide) (show 0 < j + 1 by omega); omega
                  rw [h0, this]; decide
                · have := log_ge (n := N0) (m := mv') (by omega) (by omega); omega
              generalize logH N0 = G at *
              clear hN2 hm2
              go_wp2_with (first | (go_at_call 8; refine kl.mono ?_; rintro e w' ⟨rfl, rfl⟩) | (go_at_call 13; refine km.mono ?_; rintro e w' ⟨rfl, rfl⟩) | (go_at_call 14; refine klog.mono ?_; rintro e w' ⟨rfl, rfl⟩))
              all_goals exact ⟨⟨k + 1, by rw [Int.natCast_succ], by omega, v', L', mv', ⟨H3.out.1⟩⟩, by simp only [intOf]; omega⟩
          · have d2 : (K == 2) = false := by simpa using k2
            have kc := pop_mov w w2 hb mb v L mv k HI2.out.1 (by omega)
            by_cases k3 : K < 3
            · clear k0 k1 k2
              go_upto_region 14 with (go_at_call 12; refine kc.mono ?_; rintro e w3 ⟨x, v', L', mv', rfl, h3, t3⟩; have H3 : Bx _ := ⟨And.intro h3 (t3.block B (block_lt HI2.out.2) HNB.out)⟩; clear kc h3 t3)
              have z0 : w3.cell? ⟨B, 0, none⟩ = some (.int .i64 K) := cells_at (H3.out.2.trans HI2.out.2) 0 _ rfl
              have kl := len_any hb mb v' L' false mv' w3 H3.out.1.h
              have km := moves_any hb mb v' L' false mv' w3 H3.out.1.h
              obtain ⟨N2, hN2⟩ : ∃ N, L'.length = N := ⟨_, rfl⟩
              have HN2 : Bx (L'.length = N2) := ⟨hN2⟩
              have hl2 := H3.out.1.l
              have hm2 := H3.out.1.m
              rw [hN2] at kl hl2 hm2
              by_cases hmax : N0 < N2
              · have hgt : decide (N0 < N2) = true := decide_eq_true hmax
                have klog := hlog_any N2 w3 (by omega) (by omega)
                have hlg : ¬ logH N2 < (mv' : Int) := by have := log_ge (n := N2) (m := mv') (by omega) (by omega); omega
                generalize logH N2 = G at *
                clear hN2 hm2
                go_wp2_with (first | (go_at_call 8; refine kl.mono ?_; rintro e w' ⟨rfl, rfl⟩) | (go_at_call 13; refine km.mono ?_; rintro e w' ⟨rfl, rfl⟩) | (go_at_call 14; refine klog.mono ?_; rintro e w' ⟨rfl, rfl⟩))
                all_goals exact ⟨⟨k + 1, by rw [Int.natCast_succ], by omega, v', L', mv', ⟨H3.out.1⟩⟩, by simp only [intOf]; omega⟩
              · have hgt : decide (N0 < N2) = false := decide_eq_false hmax
                have klog := hlog_any N0 w3 (by omega) (by omega)
                have hlg : ¬ logH N0 < (mv' : Int) := by
                  by_cases h0 : N0 = 0
                  · have hN : N2 = 0 := by omega
                    have : mv' = 0 := by
                      rw [hN] at hm2
                      cases mv' with
                      | zero => rfl
                      | succ j => have := Nat.pow_lt_pow_right (a := 2) (by decide) (show 0 < j + 1 by omega); omega
                    rw [h0, this]; decide
                  · have := log_ge (n := N0) (m := mv') (by omega) (by omega); omega
                generalize logH N0 = G at *
                clear hN2 hm2
                go_wp2_with (first | (go_at_call 8; refine kl.mono ?_; rintro e w' ⟨rfl, rfl⟩) | (go_at_call 13; refine km.mono ?_; rintro e w' ⟨rfl, rfl⟩) | (go_at_call 14; refine klog.mono ?_; rintro e w' ⟨rfl, rfl⟩))
                all_goals exact ⟨⟨k + 1, by rw [Int.natCast_succ], by omega, v', L', mv', ⟨H3.out.1⟩⟩, by simp only [intOf]; omega⟩
            · clear k0 k1 k2
              go_upto_region 14 with (go_at_call 12; refine kc.mono ?_; rintro e w3 ⟨x, v', L', mv', rfl, h3, t3⟩; have H3 : Bx _ := ⟨And.intro h3 (t3.block B (block_lt HI2.out.2) HNB.out)⟩; clear kc h3 t3)
              have z0 : w3.cell? ⟨B, 0, none⟩ = some (.int .i64 K) := cells_at (H3.out.2.trans HI2.out.2) 0 _ rfl
              have kl := len_any hb mb v' L' false mv' w3 H3.out.1.h
              have km := moves_any hb mb v' L' false mv' w3 H3.out.1.h
              obtain ⟨N2, hN2⟩ : ∃ N, L'.length = N := ⟨_, rfl⟩
              have HN2 : Bx (L'.length = N2) := ⟨hN2⟩
              have hl2 := H3.out.1.l
              have hm2 := H3.out.1.m
              rw [hN2] at kl hl2 hm2
              by_cases hmax : N0 < N2
              · have hgt : decide (N0 < N2) = true := decide_eq_true hmax
                have klog := hlog_any N2 w3 (by omega) (by omega)
                have hlg : ¬ logH N2 < (mv' : Int) := by have := log_ge (n := N2) (m := mv') (by omega) (by omega); omega
                generalize logH N2 = G at *
                clear hN2 hm2
                go_wp2_with (first | (go_at_call 8; refine kl.mono ?_; rintro e w' ⟨rfl, rfl⟩) | (go_at_call 13; refine km.mono ?_; rintro e w' ⟨rfl, rfl⟩) | (go_at_call 14; refine klog.mono ?_; rintro e w' ⟨rfl, rfl⟩))
                all_goals exact ⟨⟨k + 1, by rw [Int.natCast_succ], by omega, v', L', mv', ⟨H3.out.1⟩⟩, by simp only [intOf]; omega⟩
              · have hgt : decide (N0 < N2) = false := decide_eq_false hmax
                have klog := hlog_any N0 w3 (by omega) (by omega)
                have hlg : ¬ logH N0 < (mv' : Int) := by
                  by_cases h0 : N0 = 0
                  · have hN : N2 = 0 := by omega
                    have : mv' = 0 := by
                      rw [hN] at hm2
                      cases mv' with
                      | zero => rfl
                      | succ j => have := Nat.pow_lt_pow_right (a := 2) (by decide) (show 0 < j + 1 by omega); omega
                    rw [h0, this]; decide
                  · have := log_ge (n := N0) (m := mv') (by omega) (by omega); omega
                generalize logH N0 = G at *
                clear hN2 hm2
                go_wp2_with (first | (go_at_call 8; refine kl.mono ?_; rintro e w' ⟨rfl, rfl⟩) | (go_at_call 13; refine km.mono ?_; rintro e w' ⟨rfl, rfl⟩) | (go_at_call 14; refine klog.mono ?_; rintro e w' ⟨rfl, rfl⟩))
                all_goals exact ⟨⟨k + 1, by rw [Int.natCast_succ], by omega, v', L', mv', ⟨H3.out.1⟩⟩, by simp only [intOf]; omega⟩
    · obtain rfl : k = n1 := by omega
      have kb := build_loop true A2 n2 c2 M wr (HR.out.2.1.below HI.out.b) HR.out.2.2.1 (by have := HR.out.2.2.2.2.1; omega) HR.out.2.2.2.2.1 HR.out.2.2.2.2.2
      have hMl := HR.out.2.1.len
      have hHb := HI.out.b
      have HB : Bx _ := ⟨And.intro hHb hMl⟩
      clear HI hHb hMl hlt
      go_wp2_with fail
      refine kb.mono ?_
      rintro e w4 (⟨j, hj, _, _, rfl, hb4⟩ | ⟨_, hb4, mb4, v4, rfl, hH4, hbl4, _⟩)
      · have HB4 : Bx (Below w.heap.size w w4) := ⟨HB.out.1.trans (hb4.mono HB.out.1.size)⟩
        have kv := hlive_any w4
        clear hb4 kb
        go_wp2_with fail
        refine kv.mono ?_
        rintro e w5 ⟨rfl, h5⟩
        have HF : Bx (Below w.heap.size w w5) := ⟨HB4.out.trans (h5.mono HB4.out.size)⟩
        clear h5 kv
        go_wp2
        go_ret
        exact ⟨rfl, HF.out⟩
      · have HB4 : Bx (Below w.heap.size w w4) := ⟨HB.out.1.trans (hbl4.mono HB.out.1.size)⟩
        have kv := hlive_any w4
        have HH4 : Bx _ := ⟨hH4⟩
        clear hbl4 kb hH4
        go_wp2_with fail
        refine kv.mono ?_
        rintro e w5 ⟨rfl, h5⟩
        have HF : Bx (Below w.heap.size w w5) := ⟨HB4.out.trans (h5.mono HB4.out.size)⟩
        have kl := len_any _ _ _ _ _ _ _ (HH4.out.below h5)
        have km := moves_any _ _ _ _ _ _ _ (HH4.out.below h5)
        have hm := bldH_moves true M
        rw [bldH_len, HB.out.2] at kl
        rw [HB.out.2] at hm
        generalize (bldH true M).2 = mm at *
        have hm2 : decide (n2 < mm) = false := decide_eq_false (by omega)
        have hm3 : decide (mm ≤ n2) = true := decide_eq_true hm
        clear h5 kv
        go_wp2_with (first | (go_at_call 8; refine kl.mono ?_; rintro e w' ⟨rfl, rfl⟩) | (go_at_call 13; refine km.mono ?_; rintro e w' ⟨rfl, rfl⟩))
        go_ret
        exact ⟨rfl, HF.out⟩
end Go.Proofs.Ytlodgmmhaolmaaa
