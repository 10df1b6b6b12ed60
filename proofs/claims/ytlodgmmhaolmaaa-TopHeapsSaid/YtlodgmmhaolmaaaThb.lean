/- The law TopHeaps. -/
import Derived.Test.YtlodgmmhaolmaaaTha
import Derived.Test.YtlodgmmhaolmaaaHpV
import Derived.Test.YtlodgmmhaolmaaaHpL
import Derived.Deep.RegionHeld3
set_option linter.unusedSimpArgs false
set_option linter.unusedVariables false
namespace Go.Proofs.Ytlodgmmhaolmaaa
open Go.RowKit
set_option maxHeartbeats 8000000 in
set_option maxRecDepth 100000 in
theorem topheaps_law (A1 : Option Addr) (n1 c1 : Nat) (L1 : List Ent) (A2 : Option Addr) (n2 c2 : Nat) (L2 : List Ent) (w : World) (h1 : EntRow w A1 n1 L1) (t1 : Texts L1) (hn1 : n1 * 24 + 48 ≤ 140737488355328) (h2 : EntRow w A2 n2 L2) (t2 : Texts L2) (hn2 : n2 * 24 ≤ 140737488355328) :
    Calls Try.prog 6 #[.slice A1 n1 c1, .slice A2 n2 c2] w fun e w' => e = .returned (.bool true) ∧ Below w.heap.size w w' := by
  have HR : Bx _ := ⟨And.intro h1 (And.intro t1 (And.intro h2 t2))⟩
  have kn := new_heap false w
  clear h1 t1 h2 t2
  go_enter Try.func6, Try.ntmps6
  go_wp2_with fail
  refine kn.mono ?_
  rintro e w1 ⟨ha, ma, rfl, h1, hbl, ha1, ha2⟩
  have kn2 := new_heap true w1
  have HM0 : Bx (DoneIn w w1 ha ma (.slice none 0 0) [] false 0 0 []) := ⟨⟨h1, hbl, foot_nil ha1 ha2, Nat.le_refl _, nil_ok false, List.Perm.refl _⟩⟩
  clear kn h1 hbl ha1 ha2
  go_wp2_with fail
  refine kn2.mono ?_
  rintro e w2 ⟨hb, mb, rfl, h1, hbl, hb1, hb2⟩
  have HM1 : Bx (Two w w2 false true ha ma hb mb 0 0 [] []) := ⟨⟨_, _, _, _, _, _, HM0.out.step hbl, ⟨h1, HM0.out.b.trans (hbl.mono HM0.out.b.size), foot_nil (Nat.le_trans HM0.out.b.size hb1) (Nat.le_trans HM0.out.b.size hb2), Nat.le_refl _, nil_ok true, List.Perm.refl _⟩, fun x hx hy => by have := HM0.out.h.footLt x hx; have := foot_nil hb1 hb2 x hy; omega⟩⟩
  clear kn2 h1 hbl hb1 hb2 HM0
  go_wp2_with fail
  go_loopw [7] (fun i wr => ∃ k : Nat, i = .int .i64 k ∧ k ≤ n1 ∧ ∃ l, Bx (Two w wr false true ha ma hb mb k k l l)) (fun i _ => n1 - (intOf i).toNat)
  case atStart => exact ⟨0, rfl, by omega, _, HM1⟩
  case round =>
    obtain ⟨k, rfl, hk, l, HI⟩ := hrel
    clear HM1
    by_cases hlt : k < n1
    · obtain ⟨b, off, rfl, hrow⟩ := (HR.out.1.below HI.out.b).row (by omega)
      obtain ⟨r0, r1⟩ := hrow k hlt
      have hts := HR.out.2.1 _ (atE_mem (show k < L1.length by rw [HR.out.1.len]; exact hlt))
      obtain ⟨_, _, e1, hrow1⟩ := HR.out.1.row (by omega)
      injection e1 with e1
      injection e1 with e1 e2
      subst e1 e2
      have hall : ∀ x, Below w.heap.size w x → x.cell? ⟨b, off + k * 2, none⟩ = some (.int .i64 (atE L1 k).1) ∧ x.cell? ⟨b, off + k * 2 + 1, none⟩ = some (strV (atE L1 k).2) := fun x hx => ⟨by rw [hx.cell (cell_lt (hrow1 k hlt).1)]; exact (hrow1 k hlt).1, by rw [hx.cell (cell_lt (hrow1 k hlt).2)]; exact (hrow1 k hlt).2⟩
      generalize (atE L1 k).1 = r at *
      generalize (atE L1 k).2 = s at *
      have kA := two_put r s (HI.out.step (Below.refl _ _).drew) hts (by omega)
      have kB : ∀ x, Two w x false true ha ma hb mb (k + 1) k (stepIn l 0 (r, s)) l → Calls Try.prog 9 #[.pointer (some ⟨hb, 0, none⟩), .agg #[.int .i64 r, strV s]] x fun e w' => e = .returned (putX l s) ∧ Bx (Two w w' false true ha ma hb mb (k + 1) (k + 1) (stepIn l 0 (r, s)) (stepIn l 0 (r, s))) ∧ (w'.cell? ⟨b, off + k * 2, none⟩ = some (.int .i64 r) ∧ w'.cell? ⟨b, off + k * 2 + 1, none⟩ = some (strV s)) := fun x hx => (two_put r s hx.swap hts (by omega)).mono fun e w' ⟨he, h⟩ => ⟨he, ⟨h.swap⟩, hall _ h.swap.b⟩
      have kA' := kA.mono (R' := fun e w' => e = .returned (putX l s) ∧ Bx (Two w w' false true ha ma hb mb (k + 1) k (stepIn l 0 (r, s)) l) ∧ (w'.cell? ⟨b, off + k * 2, none⟩ = some (.int .i64 r) ∧ w'.cell? ⟨b, off + k * 2 + 1, none⟩ = some (strV s))) fun e w' ⟨he, h⟩ => ⟨he, ⟨h⟩, hall _ h.b⟩
      have hX : ∃ X, putX l s = X ∧ (X = .nilIface ∨ X = .iface 91 (.int .i64 5)) := ⟨_, rfl, by unfold putX; split; exact Or.inr rfl; exact Or.inl rfl⟩
      obtain ⟨X, hX, hXc⟩ := hX
      rw [hX] at kA'
      simp only [hX] at kB
      clear hX kA hrow hrow1 hall
      go_wp2_with fail
      rcases hXc with rfl | rfl
      all_goals
        go_region_held3 (fun x => x.cell? ⟨b, off + k * 2, none⟩ = some (.int .i64 r) ∧ x.cell? ⟨b, off + k * 2 + 1, none⟩ = some (strV s))
          (first | exact ⟨r0, r1⟩ | assumption)
          (first
            | (go_at_call 9; (with_reducible refine kA'.mono ?_); rintro e w3 ⟨rfl, H3, hs3⟩)
            | (go_at_call 9; (with_reducible refine (kB _ H3.out).mono ?_); rintro e w4 ⟨rfl, H4, hs4⟩))
        go_wp2
        exact ⟨⟨k + 1, by rw [Int.natCast_succ], by omega, _, H4⟩, by simp only [intOf]; omega⟩
    · obtain rfl : n1 = k := by omega
      have HM0 : Bx (Rem l (fun j => j < 0) n2 L2 l) := ⟨⟨fun e => ⟨fun h => ⟨h, fun j hj => absurd hj (by omega)⟩, fun h => h.1⟩⟩⟩
      go_wp2_with fail
      go_loopw [8] (fun i wr => ∃ k : Nat, i = .int .i64 k ∧ k ≤ n2 ∧ ∃ la, Bx (Two w wr false true ha ma hb mb n1 n1 la l) ∧ Bx (Rem l (fun j => j < k) n2 L2 la)) (fun i _ => n2 - (intOf i).toNat)
      case atStart => exact ⟨0, rfl, by omega, _, HI, HM0⟩
      case round =>
        obtain ⟨k, rfl, hk, la, HI2, HM⟩ := hrel
        clear HI HM0
        by_cases hlt : k < n2
        · obtain ⟨b, off, rfl, hrow⟩ := (HR.out.2.2.1.below HI2.out.b).row (by omega)
          obtain ⟨r0, r1⟩ := hrow k hlt
          have hts := HR.out.2.2.2 _ (atE_mem (show k < L2.length by rw [HR.out.2.2.1.len]; exact hlt))
          obtain ⟨s, hs⟩ : ∃ s, (atE L2 k).2 = s := ⟨_, rfl⟩
          rw [hs] at r1 hts
          have kt := two_take s HI2.out hts (by omega)
          have HM' : Bx (Rem l (fun j => j < k + 1) n2 L2 (stepIn la 1 (0, s))) := ⟨by rw [← hs]; exact HM.out.step HI2.out.two.1 hlt (fun j => by omega)⟩
          clear hs hrow r0
          go_wp2_with fail
          refine kt.mono ?_
          rintro e w3 ⟨⟨x, rfl⟩, H3⟩
          have HF : Bx _ := ⟨H3⟩
          clear kt H3
          go_wp2
          exact ⟨⟨k + 1, by rw [Int.natCast_succ], by omega, _, HF, HM'⟩, by simp only [intOf]; omega⟩
        · obtain rfl : n2 = k := by omega
          have HM0 : Bx (Rem l (fun j => n2 ≤ j) n2 L2 l) := ⟨⟨fun e => ⟨fun h => ⟨h, fun j hj hjn => absurd hj (by omega)⟩, fun h => h.1⟩⟩⟩
          go_wp2_with fail
          go_loopw [9] (fun i wr => ∃ k : Nat, ((k = 0 ∧ i = .int .i64 (-1)) ∨ ∃ m : Nat, k = m + 1 ∧ i = .int .i64 m) ∧ k ≤ n2 ∧ ∃ lb, Bx (Two w wr false true ha ma hb mb n1 n1 la lb) ∧ Bx (Rem l (fun j => k ≤ j) n2 L2 lb)) (fun i _ => (intOf i + 1).toNat)
          case atStart => exact ⟨n2, down_next n2, by omega, _, HI2, HM0⟩
          case round =>
            obtain ⟨k, hik, hk, lb, HI3, HM3⟩ := hrel
            clear HI2 HM0
            rcases hik with ⟨rfl, rfl⟩ | ⟨m, rfl, rfl⟩
            · rename World => u
              have hp := HM.out.perm HM3.out (fun j hj => ⟨fun _ => Nat.zero_le _, fun _ => hj⟩) HI3.out.two.1 HI3.out.two.2
              obtain ⟨va, LA, mva, vb, LB, mvb, DA, DB, hd⟩ := HI3.out.ex
              have HAB : LA.Perm LB := DA.p.trans (hp.trans DB.p.symm)
              have hlenB : LB.length = LA.length := HAB.symm.length_eq
              have hLA := DA.len
              have ksa := sorted_any ha ma va LA false mva u DA.h (by omega)
              have HD : Bx _ := ⟨And.intro DA (And.intro DB HAB)⟩
              clear HI3 HM HM3 hp DA DB HAB hd
              go_wp2_with fail
              refine ksa.mono ?_
              rintro e w1 ⟨XA, cx, SA, rfl, hSA⟩
              have ksb := sorted_any hb mb vb LB true mvb w1 (HD.out.2.1.h.below hSA.b) (by omega)
              rw [hlenB] at ksb
              have HSA : Bx _ := ⟨hSA⟩
              clear ksa hSA
              go_wp2_with fail
              refine ksb.mono ?_
              rintro e w2 ⟨XB, cy, SB, rfl, hSB⟩
              have hb02 : Below u.heap.size u w2 := HSA.out.b.trans (hSB.b.mono HSA.out.b.size)
              have klA := len_any ha ma va LA false mva w2 (HD.out.1.h.below hb02)
              have hrB := hSB.row
              have hfB := hSB.far HSA.out.b.size
              have hSBl : SB.length = LA.length := by rw [← hlenB]; exact hSB.p.length_eq
              rw [hlenB] at hrB hfB
              have HW : Bx _ := ⟨And.intro (HSA.out.row.below hSB.b) (And.intro hrB (And.intro hb02 (And.intro (HSA.out.far (Nat.le_refl _)) (And.intro hfB (And.intro (srt_rev HSA.out.srt hSB.srt HSA.out.p hSB.p HD.out.2.2) (And.intro hSBl (And.intro (fun h => top_first HD.out.1.ok HSA.out.srt HSA.out.p h) (fun h => top_first HD.out.2.1.ok hSB.srt hSB.p h))))))))⟩
              have HLB : Bx _ := ⟨hlenB⟩
              obtain ⟨N, hN⟩ : ∃ N, LA.length = N := ⟨_, rfl⟩
              rw [hlenB, hN] at HW
              have HN : Bx (LA.length = N ∧ LB.length = N) := ⟨hN, by rw [HLB.out, hN]⟩
              rw [hN] at klA hLA ⊢
              clear ksb hSB hrB hfB hSBl hb02 HSA hlenB HLB hN
              go_wp2_with (first | (go_at_call 8; refine klA.mono ?_; rintro e w' ⟨rfl, rfl⟩))
              clear klA
              go_loopw [12] (fun i wr => ∃ k : Nat, i = .int .i64 k ∧ k ≤ N ∧ Bx (Below w2.heap.size w2 wr)) (fun i _ => N - (intOf i).toNat)
              case atStart => exact ⟨0, rfl, by omega, ⟨Below.refl _ _⟩⟩
              case round =>
                obtain ⟨k, rfl, hk, HB4⟩ := hrel
                by_cases hlt : k < N
                · obtain ⟨m, hm⟩ : ∃ m, N = k + 1 + m := ⟨N - 1 - k, by omega⟩
                  obtain ⟨b, off, rfl, hrow⟩ := (HW.out.1.below HB4.out).row (by omega)
                  obtain ⟨b', off', rfl, hrow'⟩ := (HW.out.2.1.below HB4.out).row (by omega)
                  obtain ⟨r0, r1⟩ := hrow k hlt
                  obtain ⟨s0, s1⟩ := hrow' m (by omega)
                  rw [HW.out.2.2.2.2.2.1, atE_rev HW.out.2.2.2.2.2.2.1 hm] at r0 r1
                  generalize (atE SB m).1 = x at *
                  generalize (atE SB m).2 = y at *
                  have i1 : (N : Int) - 1 - k = m := by omega
                  have i2 : IntKind.i64.wrap ((N : Int) - 1) = N - 1 := IntWalk.i64_in _ (by omega)
                  have i3 : IntKind.i64.wrap (m : Int) = m := IntWalk.i64_in _ (by omega)
                  have i4 : m < N := by omega
                  clear hrow hrow' hm
                  go_wp2_with fail
                  have q0 := cell_regrown r0
                  have q1 := cell_regrown r1
                  have q2 := cell_regrown s0
                  have q3 := cell_regrown s1
                  clear r0 r1 s0 s1
                  refine wp_region_quiet_below (by kernel_rfl) (by kernel_rfl) ?_
                  repeat (go_big_quiet_step (fail))
                  refine wpQuiet_nil ?_
                  intro _ hw'
                  obtain ⟨⟨dq, osq⟩, hw''⟩ := hw'
                  subst hw''
                  have HF : Bx (Below w2.heap.size w2 (Go.Sort.grow (redrawn wr dq) osq)) := ⟨HB4.out.trans ((below_regrown wr dq osq).mono HB4.out.size)⟩
                  clear q0 q1 q2 q3 HB4 i1 i2 i3
                  generalize Go.Sort.grow (redrawn wr dq) osq = w1 at *
                  go_wp2
                  exact ⟨⟨k + 1, by rw [Int.natCast_succ], by omega, HF⟩, by simp only [intOf]; omega⟩
                · obtain rfl : N = k := by omega
                  rename World => wq
                  have hbu : Below u.heap.size u wq := HW.out.2.2.1.trans (HB4.out.mono HW.out.2.2.1.size)
                  have DA' := HD.out.1.step hbu
                  have DB' := HD.out.2.1.step hbu
                  by_cases hN0 : N = 0
                  · have eA : LA = [] := List.length_eq_zero_iff.1 (by rw [HN.out.1]; exact hN0)
                    have eB : LB = [] := List.length_eq_zero_iff.1 (by rw [HN.out.2]; exact hN0)
                    have kta := top_none ha ma va false mva wq (by have := DA'.h; rwa [eA] at this)
                    have ktb : ∀ x, Below wq.heap.size wq x → Calls Try.prog 28 #[.pointer (some ⟨hb, 0, none⟩)] x fun e w' => e = .returned (.tuple #[.agg #[.int .i64 0, strV []], .bool false]) ∧ Below x.heap.size x w' := fun x hx => top_none hb mb vb true mvb x (by have := DB'.h.below hx; rwa [eB] at this)
                    have HDA : Bx _ := ⟨DA'⟩
                    have dN : decide (0 < N) = false := by simp [hN0]
                    clear DA' DB' eA eB hN0
                    go_wp2_with fail
                    refine kta.mono ?_
                    rintro e w4 ⟨rfl, hb4⟩
                    have hb4' := hb4.trans ((below1 w4 (.cells #[.int .i64 0, .string ⟨#[]⟩] 27)).mono hb4.size)
                    have HB5 : Bx _ := ⟨hb4'⟩
                    clear kta hb4
                    go_wp2_with fail
                    refine (ktb _ hb4').mono ?_
                    rintro e w5 ⟨rfl, hb5⟩
                    have hb6 := (hb5.trans ((below1 w5 (.cells #[.int .i64 0, .string ⟨#[]⟩] 27)).mono hb5.size)).mono hb4'.size
                    have kput := put_done w (w5.alloc (.cells #[.int .i64 0, .string ⟨#[]⟩] 27)) ha ma va LA la false mva n1 1 [0] (HDA.out.step (hb4'.trans hb6)) (by decide) (by omega)
                    clear ktb hb4' hb5 hb6
                    go_wp2_with fail
                    refine kput.mono ?_
                    rintro e w6 ⟨z, v', L', mv', rfl, h6, t6⟩
                    have kl : ∀ d os, Calls Try.prog 8 #[.pointer (some ⟨ha, 0, none⟩)] (Go.Sort.grow (redrawn w6 d) os) fun e w' => e = .returned (.int .i64 L'.length) ∧ Below (Go.Sort.grow (redrawn w6 d) os).heap.size (Go.Sort.grow (redrawn w6 d) os) w' := fun d os => (len_any ha ma v' L' false mv' _ (h6.h.below (below_regrown w6 d os))).mono fun e w' ⟨he, hw⟩ => ⟨he, hw ▸ Below.refl _ _⟩
                    have hM : 0 < L'.length := by rw [h6.p.length_eq]; exact stepIn_pos
                    have HF6 : Bx (Below w.heap.size w w6) := ⟨h6.b⟩
                    generalize L'.length = M at *
                    have dM : decide (0 < M) = true := decide_eq_true hM
                    clear kput h6 t6
                    go_wp2_with fail
                    refine wp_region_quiet_below (by kernel_rfl) (by kernel_rfl) ?_
                    repeat (go_big_quiet_step (first | (go_at_call 8; with_reducible exact Calls.regrown_of (kl _ _))))
                    refine wpQuiet_nil ?_
                    intro _ hw'
                    obtain ⟨⟨dq, osq⟩, hw''⟩ := hw'
                    subst hw''
                    have HF : Bx (Below w.heap.size w (Go.Sort.grow (redrawn w6 dq) osq)) := ⟨HF6.out.trans ((below_regrown w6 dq osq).mono HF6.out.size)⟩
                    clear kl
                    generalize Go.Sort.grow (redrawn w6 dq) osq = w7 at *
                    go_wp2
                    go_ret
                    exact ⟨rfl, HF.out⟩
                  · have hNp : 0 < N := by omega
                    have kta := top_some ha ma va LA false mva wq DA'.h (by rw [HN.out.1]; exact hNp)
                    have ktb : ∀ x, Below wq.heap.size wq x → Calls Try.prog 28 #[.pointer (some ⟨hb, 0, none⟩)] x fun e w' => e = .returned (.tuple #[.agg #[.int .i64 (atE LB 0).1, strV (atE LB 0).2], .bool true]) ∧ Below x.heap.size x w' := fun x hx => top_some hb mb vb LB true mvb x (DB'.h.below hx) (by rw [HN.out.2]; exact hNp)
                    rw [HW.out.2.2.2.2.2.2.2.1 hNp] at kta
                    rw [HW.out.2.2.2.2.2.2.2.2 hNp] at ktb
                    have HDA : Bx _ := ⟨DA'⟩
                    have dN : decide (0 < N) = true := decide_eq_true hNp
                    obtain ⟨b, off, rfl, hrow⟩ := (HW.out.1.below HB4.out).row hNp
                    obtain ⟨b', off', rfl, hrow'⟩ := (HW.out.2.1.below HB4.out).row hNp
                    obtain ⟨r0, r1⟩ := hrow 0 hNp
                    obtain ⟨s0, s1⟩ := hrow' 0 hNp
                    have hgb := HW.out.2.2.2.1 hNp b off rfl
                    have hgb' := HW.out.2.2.2.2.1 hNp b' off' rfl
                    have hft : ∀ x ∈ foot ha ma va, x < u.heap.size := HD.out.1.h.footLt
                    have HUS : Bx (u.heap.size ≤ wq.heap.size) := ⟨hbu.size⟩
                    generalize (atE SA 0).1 = x at *
                    generalize (atE SA 0).2 = y at *
                    generalize (atE SB 0).1 = x' at *
                    generalize (atE SB 0).2 = y' at *
                    have HRW : Bx _ := ⟨And.intro r0 (And.intro r1 (And.intro s0 s1))⟩
                    clear DA' DB' hrow hrow' r0 r1 s0 s1 hN0
                    go_wp2_with fail
                    refine kta.mono ?_
                    rintro e w4 ⟨rfl, hb4⟩
                    have hx4 := box_cells w4 x y 27
                    have hb4' := hb4.trans ((below1 w4 (.cells #[.int .i64 x, strV y] 27)).mono hb4.size)
                    have HB4' : Bx _ := ⟨And.intro hb4.size hb4'⟩
                    clear kta hb4
                    go_wp2_with fail
                    refine (ktb _ hb4').mono ?_
                    rintro e w5 ⟨rfl, hb5⟩
                    have hx5 := box_cells w5 x' y' 27
                    have hb56 := hb5.trans ((below1 w5 (.cells #[.int .i64 x', strV y'] 27)).mono hb5.size)
                    have hb6 := hb56.mono hb4'.size
                    have HS5 : Bx (w4.heap.size + 1 ≤ w5.heap.size) := ⟨by have := hb5.size; simpa using this⟩
                    have e0 : (w5.alloc (.cells #[.int .i64 x', strV y'] 27)).cell? ⟨w4.heap.size, 0, none⟩ = some (.int .i64 x) := by rw [hb56.cell (cell_lt hx4.1)]; exact hx4.1
                    have e1 : (w5.alloc (.cells #[.int .i64 x', strV y'] 27)).cell? ⟨w4.heap.size, 1, none⟩ = some (strV y) := by rw [hb56.cell (cell_lt hx4.2)]; exact hx4.2
                    have hbA := hb4'.trans hb6
                    have kput := put_done w (w5.alloc (.cells #[.int .i64 x', strV y'] 27)) ha ma va LA la false mva n1 1 [0] (HDA.out.step hbA) (by decide) (by omega)
                    have HE : Bx _ := ⟨And.intro e0 (And.intro e1 (And.intro hx5.1 (And.intro hx5.2 hbA)))⟩
                    clear ktb hb4' hb5 hb6 hb56 hx4 hx5 e0 e1 hbA
                    go_wp2_with fail
                    refine kput.mono ?_
                    rintro e w6 ⟨z, v', L', mv', rfl, h6, t6⟩
                    have hnf : ∀ z, u.heap.size ≤ z → z ∉ foot ha ma va := fun z hz hm => by have := hft z hm; omega
                    have hu4 : u.heap.size ≤ w4.heap.size := Nat.le_trans HUS.out HB4'.out.1
                    have hu5 : u.heap.size ≤ w5.heap.size := by have := HS5.out; omega
                    have tu : ∀ (a : Addr) (v : Value), wq.cell? a = some v → u.heap.size ≤ a.block → w6.cell? a = some v := fun a v hc ha' => t6.cell (by rw [HE.out.2.2.2.2.cell (cell_lt hc)]; exact hc) (hnf _ ha')
                    have q0 := cell_regrown (tu _ _ HRW.out.1 hgb)
                    have q1 := cell_regrown (tu _ _ HRW.out.2.1 hgb)
                    have q2 := cell_regrown (tu _ _ HRW.out.2.2.1 hgb')
                    have q3 := cell_regrown (tu _ _ HRW.out.2.2.2 hgb')
                    have q4 := cell_regrown (t6.cell HE.out.1 (hnf _ hu4))
                    have q5 := cell_regrown (t6.cell HE.out.2.1 (hnf _ hu4))
                    have q6 := cell_regrown (t6.cell HE.out.2.2.1 (hnf _ hu5))
                    have q7 := cell_regrown (t6.cell HE.out.2.2.2.1 (hnf _ hu5))
                    have kl : ∀ d os, Calls Try.prog 8 #[.pointer (some ⟨ha, 0, none⟩)] (Go.Sort.grow (redrawn w6 d) os) fun e w' => e = .returned (.int .i64 L'.length) ∧ Below (Go.Sort.grow (redrawn w6 d) os).heap.size (Go.Sort.grow (redrawn w6 d) os) w' := fun d os => (len_any ha ma v' L' false mv' _ (h6.h.below (below_regrown w6 d os))).mono fun e w' ⟨he, hw⟩ => ⟨he, hw ▸ Below.refl _ _⟩
                    have hM : 0 < L'.length := by rw [h6.p.length_eq]; exact stepIn_pos
                    have HF6 : Bx (Below w.heap.size w w6) := ⟨h6.b⟩
                    generalize L'.length = M at *
                    have dM : decide (0 < M) = true := decide_eq_true hM
                    simp only [Nat.zero_mul, Nat.add_zero] at q0 q1 q2 q3
                    generalize w4.heap.size = B4 at *
                    generalize w5.heap.size = B5 at *
                    clear kput h6 t6 tu hnf hft HRW HE
                    go_wp2_with fail
                    refine wp_region_quiet_below (by kernel_rfl) (by kernel_rfl) ?_
                    repeat (go_big_quiet_step (first | (go_at_call 8; with_reducible exact Calls.regrown_of (kl _ _))))
                    refine wpQuiet_nil ?_
                    intro _ hw'
                    obtain ⟨⟨dq, osq⟩, hw''⟩ := hw'
                    subst hw''
                    have HF : Bx (Below w.heap.size w (Go.Sort.grow (redrawn w6 dq) osq)) := ⟨HF6.out.trans ((below_regrown w6 dq osq).mono HF6.out.size)⟩
                    clear kl q0 q1 q2 q3 q4 q5 q6 q7
                    generalize Go.Sort.grow (redrawn w6 dq) osq = w7 at *
                    go_wp2
                    go_ret
                    exact ⟨rfl, HF.out⟩
            · obtain ⟨b, off, rfl, hrow⟩ := (HR.out.2.2.1.below HI3.out.b).row (by omega)
              obtain ⟨r0, r1⟩ := hrow m (by omega)
              have hts := HR.out.2.2.2 _ (atE_mem (show m < L2.length by rw [HR.out.2.2.1.len]; omega))
              obtain ⟨s, hs⟩ : ∃ s, (atE L2 m).2 = s := ⟨_, rfl⟩
              rw [hs] at r1 hts
              have kt := two_take s HI3.out.swap hts (by omega)
              have HM' : Bx (Rem l (fun j => m ≤ j) n2 L2 (stepIn lb 1 (0, s))) := ⟨by rw [← hs]; exact HM3.out.step HI3.out.two.2 (by omega) (fun j => by omega)⟩
              have hml : m < n2 := by omega
              clear hs hrow r0
              go_wp2_with fail
              refine kt.mono ?_
              rintro e w3 ⟨⟨x, rfl⟩, H3⟩
              have HF : Bx _ := ⟨H3.swap⟩
              clear kt H3
              go_wp2
              exact ⟨⟨m, down_next m, by omega, _, HF, HM'⟩, by simp only [intOf]; omega⟩
end Go.Proofs.Ytlodgmmhaolmaaa
