/- The law HeapHolds. -/
import Derived.Test.YtlodgmmhaolmaaaIn
import Derived.Test.YtlodgmmhaolmaaaTha
import Derived.Test.YtlodgmmhaolmaaaHpV
import Derived.Test.YtlodgmmhaolmaaaHpL
set_option linter.unusedSimpArgs false
set_option linter.unusedVariables false
namespace Go.Proofs.Ytlodgmmhaolmaaa
open Go.RowKit
theorem row_in {w : World} {v : Value} {L : List Ent} (h : RowE w v L) : ∃ A cap, v = .slice A L.length cap ∧ EntRow w A L.length L := by
  rcases h with ⟨g, cap, h0, rfl, ho⟩ | ⟨hL, A, rfl⟩
  · refine ⟨_, cap, rfl, ⟨rfl, fun _ => ⟨g, 0, rfl, fun i hi => ?_⟩⟩⟩
    have := ent_cells ho rfl hi
    rw [Nat.zero_add]; exact this
  · subst hL
    exact ⟨A, 0, rfl, ⟨rfl, fun h => absurd h (by simp)⟩⟩
structure PopIn (w wr : World) (hb mb : Nat) (v : Value) (L : List Ent) (mo : Bool) (mv k : Nat) (S : List Ent) (A : Option Addr) (N : Nat) : Prop where
  h : HeapAt wr hb mb v L mo mv
  b : Below w.heap.size w wr
  f : ∀ x ∈ foot hb mb v, w.heap.size ≤ x
  ok : HeapOk mo L
  p : L.Perm (S.drop k)
  row : EntRow wr A N S
  far : 0 < N → ∀ b off, A = some ⟨b, off, none⟩ → b ∉ foot hb mb v
theorem PopIn.step {w wr w' : World} {hb mb : Nat} {v : Value} {L : List Ent} {mo : Bool} {mv k : Nat} {S : List Ent} {A : Option Addr} {N : Nat} (h : PopIn w wr hb mb v L mo mv k S A N) (hb' : Below wr.heap.size wr w') : PopIn w w' hb mb v L mo mv k S A N :=
  ⟨h.h.below hb', h.b.trans (hb'.mono h.b.size), h.f, h.ok, h.p, h.row.below hb', h.far⟩
theorem PopIn.to {w wr w' : World} {hb mb : Nat} {v v' : Value} {L : List Ent} {mo : Bool} {mv k mv' : Nat} {S : List Ent} {A : Option Addr} {N : Nat} (h : PopIn w wr hb mb v L mo mv k S A N) (hk : k < S.length) (hs : SrtE mo S) (ht : HeapTo wr w' hb mb v v' (takeH mo L 0).1 mo mv') :
    atE L 0 = atE S k ∧ PopIn w w' hb mb v' (takeH mo L 0).1 mo mv' (k + 1) S A N := by
  have hl : 0 < L.length := by rw [h.p.length_eq, List.length_drop]; omega
  have hd : S.drop k = atE S k :: S.drop (k + 1) := by
    rw [List.drop_eq_getElem_cons hk]
    congr 1
    unfold atE; rw [List.getD_eq_getElem?_getD, List.getElem?_eq_getElem hk]; rfl
  have he : atE L 0 = atE S k := by
    have h1 := top_first h.ok (S := S.drop k) (hs.sublist (List.drop_sublist k S)) h.p.symm hl
    rw [h1, hd]; rfl
  refine ⟨he, ht.h, h.b.trans (ht.t.below h.f h.b.size), fun x hx => ?_, take_ok h.ok 0, ?_, h.row.turn2 ht.t (fun h0 b off e => h.far h0 b off e), fun h0 b off e hm => ?_⟩
  · rcases foot_step ht.r x hx with hx | hx
    · exact h.f x hx
    · exact Nat.le_trans h.b.size hx
  · have h1 := (take_perm mo L 0 hl).trans h.p
    rw [hd, he] at h1
    exact (List.perm_cons _).1 h1
  · rcases foot_step ht.r b hm with hx | hx
    · exact h.far h0 b off e hx
    · obtain ⟨b', off', e', hc⟩ := h.row.row h0
      rw [e'] at e
      injection e with e
      injection e with e _
      subst e
      have := cell_lt (hc 0 h0).1
      simp only at this
      omega
theorem sorted_same2 {mo : Bool} {L S T : List Ent} (hS : SrtE mo S) (hp : S.Perm L) (hT : SrtE mo T) (hq : T.Perm L) : T = S := srt_unique hT hS (hq.trans hp.symm)
set_option maxHeartbeats 8000000 in
set_option maxRecDepth 100000 in
theorem hholds_law (mo : Bool) (A : Option Addr) (n cap : Nat) (kd : Nat → Int) (en : Nat → Ent) (x1 : Nat → Int) (x2 : Nat → Bool) (x5 : Nat → Option Addr × Nat × Nat) (w : World) (ho : OpRow w A n kd en x1 x2 x5) (hn : (n + 1) * 24 ≤ 140737488355328) :
    Calls Try.prog 4 #[.slice A n cap, .bool mo] w fun e w' => e = .returned (.bool true) ∧ Below w.heap.size w w' := by
  have HR : Bx _ := ⟨ho⟩
  have kd1 := done_any mo A n cap kd en x1 x2 x5 w ho hn
  clear ho
  go_enter Try.func4, Try.ntmps4
  go_wp2_with fail
  refine kd1.mono ?_
  rintro e w1 ⟨hb, mb, v, L, mv, rfl, h1⟩
  have HD := Bx.mk h1
  have ki := in_any A n cap kd en x1 x2 x5 w1 (HR.out.below h1.b) hn
  clear kd1 h1
  go_wp2_with fail
  refine ki.mono ?_
  rintro e w2 ⟨A1, c1, rfl, hr1, hN1, hb2⟩
  obtain ⟨l0, hl0⟩ : ∃ l0, inF kd en n = l0 := ⟨_, rfl⟩
  have HP : Bx (L.Perm l0) := ⟨by rw [← hl0]; exact HD.out.p⟩
  rw [hl0] at hr1 hN1 ⊢
  have hLl : L.length = l0.length := HP.out.length_eq
  have hLn := HD.out.len
  obtain ⟨N, hN⟩ : ∃ N, l0.length = N := ⟨_, rfl⟩
  rw [hN] at hr1 hLl ⊢
  have hNn : N ≤ n := by omega
  have HL : Bx (L.length = N) := ⟨hLl⟩
  have HB2 := Bx.mk hb2
  have ks := rsorted_any mo A1 N c1 l0 w2 hr1 hN1 (by omega)
  clear ki hr1 hN1 hb2 hl0 hN hLn hLl
  go_wp2_with fail
  refine ks.mono ?_
  rintro e w3 ⟨A2, c2, S, rfl, hrS, hsS, hpS, hb3, hf3⟩
  have h3 : PopIn w w3 hb mb v L mo mv 0 S A2 N := ⟨HD.out.h.below (HB2.out.trans (hb3.mono HB2.out.size)), HD.out.b.trans ((HB2.out.trans (hb3.mono HB2.out.size)).mono HD.out.b.size), HD.out.f, HD.out.ok, by rw [List.drop_zero]; exact HP.out.trans hpS.symm, hrS, fun h0 b off e hm => by
    obtain ⟨g, hg, hge⟩ := hf3 h0
    rw [hg] at e
    injection e with e
    injection e with e _
    subst e
    have := HD.out.h.footLt _ hm
    have := HB2.out.size
    omega⟩
  have H3 := Bx.mk h3
  have HS := Bx.mk (And.intro hsS hrS.len)
  have kl := list_any hb mb v L mo mv w3 h3.h (by rw [HL.out]; omega)
  clear ks hrS hsS hpS hb3 hf3 h3 HD HB2 HP
  go_wp2_with fail
  refine kl.mono ?_
  rintro e w4 ⟨v', rfl, hr4, hb4, _⟩
  obtain ⟨A3, c3, rfl, hr3⟩ := row_in hr4
  rw [HL.out] at hr3 ⊢
  have H4 := Bx.mk (And.intro (H3.out.step hb4) hr3)
  have kso := sorted_any hb mb v L mo mv w4 H4.out.1.h (by rw [HL.out]; omega)
  rw [HL.out] at kso
  clear kl hr4 hb4 hr3 H3
  go_wp2_with fail
  refine kso.mono ?_
  rintro e w5 ⟨A4, c4, S4, rfl, h5⟩
  have e4 : S4 = S := sorted_same2 HS.out.1 (by have := H4.out.1.p; rw [List.drop_zero] at this; exact this.symm) h5.srt h5.p
  have H5 := Bx.mk (And.intro (H4.out.1.step h5.b) (H4.out.2.below h5.b))
  have ksm := hsame_any A4 A2 N c4 c2 S w5 (by have := h5.row; rwa [HL.out, e4] at this) H5.out.1.row (by omega)
  clear kso h5 e4 H4
  go_wp2_with fail
  refine ksm.mono ?_
  rintro e w6 ⟨rfl, hb6⟩
  have H6 := Bx.mk (And.intro (H5.out.1.step hb6) (H5.out.2.below hb6))
  have ks2 := rsorted_any mo A3 N c3 L w6 H6.out.2 H6.out.1.h.two (by omega)
  clear ksm hb6 H5
  go_wp2_with fail
  refine ks2.mono ?_
  rintro e w7 ⟨A5, c5, S5, rfl, hr5, hs5, hp5, hb7, _⟩
  have e5 : S5 = S := sorted_same2 HS.out.1 (by have := H6.out.1.p; rw [List.drop_zero] at this; exact this.symm) hs5 hp5
  have H7 := Bx.mk (And.intro (H6.out.1.step hb7) (H6.out.2.below hb7))
  have ksm := hsame_any A5 A2 N c5 c2 S w7 (by rwa [e5] at hr5) H7.out.1.row (by omega)
  clear ks2 hr5 hs5 hp5 hb7 e5 H6
  go_wp2_with fail
  refine ksm.mono ?_
  rintro e w8 ⟨rfl, hb8⟩
  have H8 := Bx.mk (And.intro (H7.out.1.step hb8) (H7.out.2.below hb8))
  clear ksm hb8 H7
  go_wp2_with fail
  go_loopw [8] (fun i wr => ∃ j : Nat, i = .int .i64 ((j : Int) + 1) ∧ (j + 1 ≤ N ∨ (N = 0 ∧ j = 0)) ∧ Bx (Below w8.heap.size w8 wr)) (fun i _ => N - (intOf i).toNat)
  case atStart => exact ⟨0, rfl, by omega, ⟨Below.refl _ _⟩⟩
  case round =>
    obtain ⟨j, rfl, hj, HB⟩ := hrel
    by_cases hlt : j + 1 < N
    · have hlt' : (j : Int) + 1 < N := by omega
      obtain ⟨b, off, rfl, hrow⟩ := (H8.out.2.below HB.out).row (by omega)
      obtain ⟨q, hq⟩ : ∃ q, j / 2 = q := ⟨_, rfl⟩
      have hqN : q < N := by omega
      obtain ⟨c0, c1⟩ := hrow (j + 1) hlt
      obtain ⟨d0, d1⟩ := hrow q hqN
      have hah := H8.out.1.ok (j + 1) (by omega) (by rw [HL.out]; exact hlt)
      rw [Nat.add_sub_cancel, hq] at hah
      have hq1 : (0 : Int) ≤ q := by omega
      have b1 : IntKind.i64.wrap ((j : Int) + 1) = j + 1 := IntWalk.i64_in _ (by omega)
      have b2 : ((j : Int) / 2) = (q : Int) := by omega
      have b3 : ((j : Int).tdiv 2) = (q : Int) := by rw [Int.tdiv_eq_ediv_of_nonneg (by omega)]; exact b2
      have b4 : IntKind.i64.wrap (j : Int) = j := IntWalk.i64_in _ (by omega)
      have b5 : IntKind.i64.wrap (q : Int) = q := IntWalk.i64_in _ (by omega)
      have ka : ∀ w, Calls Try.prog 24 #[.bool mo, .agg #[.int .i64 (atE L (j + 1)).1, strV (atE L (j + 1)).2], .agg #[.int .i64 (atE L q).1, strV (atE L q).2]] w fun e w' => e = .returned (.bool (ahE mo (atE L (j + 1)) (atE L q))) ∧ Below w.heap.size w w' := fun w => rahead_any mo _ _ _ _ w
      rw [hah] at ka
      generalize (atE L (j + 1)).1 = x at *
      generalize (atE L (j + 1)).2 = y at *
      generalize (atE L q).1 = x' at *
      generalize (atE L q).2 = y' at *
      clear hrow hah hq
      go_wp2_with fail
      have q0 := cell_regrown c0
      have q1 := cell_regrown c1
      have q2 := cell_regrown d0
      have q3 := cell_regrown d1
      clear c0 c1 d0 d1
      refine wp_region_quiet_below (by kernel_rfl) (by kernel_rfl) ?_
      repeat (go_big_quiet_step (first | (go_at_call 24; with_reducible exact Calls.regrown_of (ka _))))
      refine wpQuiet_nil ?_
      intro _ hw'
      obtain ⟨⟨dq, osq⟩, hw''⟩ := hw'
      subst hw''
      have HF : Bx (Below w8.heap.size w8 (Go.Sort.grow (redrawn wr dq) osq)) := ⟨HB.out.trans ((below_regrown wr dq osq).mono HB.out.size)⟩
      clear q0 q1 q2 q3 HB ka b2 b3 b4 b5
      generalize Go.Sort.grow (redrawn wr dq) osq = w9 at *
      go_wp2
      exact ⟨⟨j + 1, by rw [Int.natCast_succ], by omega, HF⟩, by simp only [intOf]; omega⟩
    · have hlt' : ¬ ((j : Int) + 1 < N) := by omega
      rename World => w9
      have H9 := Bx.mk (H8.out.1.step HB.out)
      clear H8 HB hj hlt
      go_wp2_with fail
      go_loopw [9] (fun i wr => ∃ (k : Nat) (v' : Value) (L' : List Ent) (mv' : Nat), i = .int .i64 k ∧ k ≤ N ∧ Bx (PopIn w wr hb mb v' L' mo mv' k S A2 N)) (fun i _ => N - (intOf i).toNat)
      case atStart => exact ⟨0, _, _, _, rfl, by omega, H9⟩
      case round =>
        obtain ⟨k, v', L', mv', rfl, hk, HI⟩ := hrel
        clear H9
        have hlen : L'.length = N - k := by rw [HI.out.p.length_eq, List.length_drop, HS.out.2]
        by_cases hlt : k < N
        · have kp := pop_some hb mb v' L' mo mv' (N - k - 1) wr HI.out.h (by rw [hlen]; omega) (by omega)
          obtain ⟨b, off, rfl, _⟩ := HI.out.row.row (by omega)
          have he : atE L' 0 = atE S k := by
            have hd : S.drop k = atE S k :: S.drop (k + 1) := by
              rw [List.drop_eq_getElem_cons (by rw [HS.out.2]; exact hlt)]
              congr 1
              unfold atE; rw [List.getD_eq_getElem?_getD, List.getElem?_eq_getElem (by rw [HS.out.2]; exact hlt)]; rfl
            have h1 := top_first HI.out.ok (S := S.drop k) (HS.out.1.sublist (List.drop_sublist k S)) HI.out.p.symm (by rw [hlen]; omega)
            rw [h1, hd]; rfl
          have HE := Bx.mk he
          rw [he] at kp
          obtain ⟨x, hx⟩ : ∃ x, (atE S k).1 = x := ⟨_, rfl⟩
          obtain ⟨y, hy⟩ : ∃ y, (atE S k).2 = y := ⟨_, rfl⟩
          have HXY := Bx.mk (And.intro hx hy)
          rw [hx, hy] at kp
          clear he hlen hx hy
          go_wp2_with fail
          refine kp.mono ?_
          rintro e w10 ⟨rfl, v2, ht⟩
          have hP := (HI.out.to (by rw [HS.out.2]; exact hlt) HS.out.1 ht).2
          have hP2 := hP.step (below1 w10 (.cells #[.int .i64 x, strV y] 27))
          obtain ⟨b', off', e', hrow⟩ := hP2.row.row (by omega)
          injection e' with e'
          injection e' with e1 e2
          subst e1 e2
          obtain ⟨c0, c1⟩ := hrow k hlt
          rw [HXY.out.1] at c0
          rw [HXY.out.2] at c1
          have hx2 := box_cells w10 x y 27
          have HP2 := Bx.mk hP2
          have q0 := cell_regrown c0
          have q1 := cell_regrown c1
          have q2 := cell_regrown hx2.1
          have q3 := cell_regrown hx2.2
          clear kp hP hP2 hrow c0 c1 hx2 ht HI
          go_wp2_with fail
          refine wp_region_quiet_below (by kernel_rfl) (by kernel_rfl) ?_
          repeat (go_big_quiet_step (fail))
          refine wpQuiet_nil ?_
          intro _ hw'
          obtain ⟨⟨dq, osq⟩, hw''⟩ := hw'
          subst hw''
          have HF := Bx.mk (HP2.out.step (below_regrown (w10.alloc (.cells #[.int .i64 x, strV y] 27)) dq osq))
          clear q0 q1 q2 q3 HP2
          generalize Go.Sort.grow (redrawn (w10.alloc (.cells #[.int .i64 x, strV y] 27)) dq) osq = w11 at *
          go_wp2
          exact ⟨⟨k + 1, _, _, _, by rw [Int.natCast_succ], by omega, HF⟩, by simp only [intOf]; omega⟩
        · obtain rfl : N = k := by omega
          rename World => w10
          rw [Nat.sub_self] at hlen
          clear hlt
          go_wp2_with fail
          refine (hlive_any _).mono ?_
          rintro e w11 ⟨rfl, hb11⟩
          have H11 := Bx.mk (HI.out.step hb11)
          have kl := len_any hb mb v' L' mo mv' w11 H11.out.h
          rw [hlen] at kl
          clear hb11 HI
          go_wp2_with fail
          refine kl.mono ?_
          rintro e w12 ⟨rfl, rfl⟩
          clear kl
          go_wp2
          go_ret
          exact ⟨rfl, H11.out.b⟩
end Go.Proofs.Ytlodgmmhaolmaaa
