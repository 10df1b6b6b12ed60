/- What is in behind a script, by definition: the walk. -/
import Derived.Test.YtlodgmmhaolmaaaRsw
import Derived.Test.YtlodgmmhaolmaaaOpR
import Derived.Deep.RegionLaw
set_option linter.unusedSimpArgs false
set_option linter.unusedVariables false
namespace Go.Proofs.Ytlodgmmhaolmaaa
open Go.RowKit
structure IIn (w wr : World) (kd : Nat → Int) (en : Nat → Ent) (v : Value) (l : List Ent) (k : Nat) : Prop where
  b : Below w.heap.size w wr
  own : wr.ownsRow w.heap.size 27 2 v l.length (entC l)
  two : NoTwice l
  len : l.length ≤ k
  eq : l = inF kd en k
theorem IIn.step {w wr w' : World} {kd : Nat → Int} {en : Nat → Ent} {v : Value} {l : List Ent} {k : Nat} (h : IIn w wr kd en v l k) (hb : Below wr.heap.size wr w') : IIn w w' kd en v l k := ⟨h.b.trans (hb.mono h.b.size), own_below h.own hb, h.two, h.len, h.eq⟩
theorem step_append_own {w : World} {ops : Array Oper} {o : Oper} {a : Act} {K : Act → World → Prop} {Q : Exit → Act → World → Prop} {E : Prop} (hgd : o.guard = none) (s x : Operand)
    (ho : o.op = .call { callee := .builtin .append, args := #[s, x], argTypes := #[23, 23] }) (base : Nat)
    (v : Value) (n : Nat) (xs : List Value) (hs : a.eval s = v) (hown : w.ownsRow base 27 2 v n xs)
    (ad : Addr) (m c : Nat) (news : List Value) (hx : a.eval x = .slice (some ad) m c) (hl : news.length = m * 2) (hnews : ∀ j u, news[j]? = some u → w.cell? (ad.add j) = some u) (h1 : ∀ u ∈ news, u.oneCell' = true)
    (h63 : n + m ≤ maxLen) (hbytes : (n + m) * 24 ≤ 140737488355328) (hbase : base ≤ w.heap.size)
    (h : ∀ v' w', w'.ownsRow base 27 2 v' (n + m) (xs ++ news) → w.grownBy w' v.ownBlock → (v' = .slice none 0 0 ↔ v = .slice none 0 0 ∧ m = 0) → K (a.put o.dst v') w') :
    if Region.wanted o (yielded ops a.tmps) = true then Oper.wp Try.prog o a w K Q else E := by
  obtain ⟨i0, hi, hiz, hi1, hi2⟩ := infoE
  have hw : Region.wanted o (yielded ops a.tmps) = true := by simp [Region.wanted, hgd]
  rw [if_pos hw]
  exact wp_append_own w s x 23 ho base 27 i0 _ 2 24 Try.underlying23 hi hiz hi1 hi2 rfl (by decide) v n xs hs hown ad m c news hx hl hnews h1 h63 hbytes hbase h
theorem noTwice_step {l : List Ent} {K : Int} {e : Ent} (h : NoTwice l) : NoTwice (stepIn l K e) := by
  unfold stepIn
  cases hf : findE l e.2 with
  | none => simp only; split; exact noTwice_snoc h hf; exact h
  | some i =>
    simp only
    split
    · exact h.sublist (List.eraseIdx_sublist l i)
    · split
      · exact turn_two h
      · exact h
theorem stepIn_len (l : List Ent) (K : Int) (e : Ent) : (stepIn l K e).length ≤ l.length + 1 := by
  unfold stepIn
  cases hf : findE l e.2 with
  | none => simp only; split <;> simp
  | some i =>
    simp only
    split
    · rw [List.length_eraseIdx]; split <;> omega
    · split <;> simp
theorem own_rank {w : World} {S g n cap i : Nat} {M : List Ent} {r : Int} (h : w.ownsRow S 27 2 (.slice (some ⟨g, 0, none⟩) n cap) n (entC M)) (hi : i < M.length) :
    (w.setCell ⟨g, i * 2, none⟩ (.int .i64 r)).ownsRow S 27 2 (.slice (some ⟨g, 0, none⟩) n cap) n (entC (M.set i (r, (atE M i).2))) := by
  have o2 := (h.stored (i * 2) (.int .i64 r)).1
  have hgr := entC_get M i hi
  have e1 : (entC M).set (i * 2) (.int .i64 r) = entC (M.set i (r, (atE M i).2)) := by
    rw [← entC_set M i (r, (atE M i).2)]
    symm
    apply List.ext_getElem?
    intro j
    rw [List.getElem?_set]
    split
    · rename_i h
      subst h
      rw [List.getElem?_set_ne (by omega), hgr.2]
      simp
      have := (List.getElem?_eq_some_iff.1 hgr.2).1
      omega
    · rfl
  rwa [e1] at o2
theorem news_take {w : World} {g : Nat} {l : List Ent} {m : Nat} (h : ∀ (j : Nat) (u : Value), (entC l)[j]? = some u → w.cell? ((⟨g, 0, none⟩ : Addr).add j) = some u) : ∀ (j : Nat) (u : Value), (entC (l.take m))[j]? = some u → w.cell? ((⟨g, 0, none⟩ : Addr).add j) = some u := fun j u hj => by
  refine h j u ?_
  have e : entC l = entC (l.take m) ++ entC (l.drop m) := by rw [← entC_app, List.take_append_drop]
  rw [e, List.getElem?_append_left (List.getElem?_eq_some_iff.1 hj).1]
  exact hj
theorem news_drop {w : World} {g : Nat} {l : List Ent} {m : Nat} (h : ∀ (j : Nat) (u : Value), (entC l)[j]? = some u → w.cell? ((⟨g, 0, none⟩ : Addr).add j) = some u) (hm : m + 1 ≤ l.length) : ∀ (j : Nat) (u : Value), (entC (l.drop (m + 1)))[j]? = some u → w.cell? ((⟨g, (m + 1) * 2, none⟩ : Addr).add j) = some u := fun j u hj => by
  have e : entC l = entC (l.take (m + 1)) ++ entC (l.drop (m + 1)) := by rw [← entC_app, List.take_append_drop]
  have h1 := h ((m + 1) * 2 + j) u (by
    have hl : (entC (l.take (m + 1))).length = (m + 1) * 2 := by rw [entC_len, List.length_take]; omega
    rw [e, List.getElem?_append_right (by omega), hl, Nat.add_sub_cancel_left]
    exact hj)
  have ea : (⟨g, (m + 1) * 2, none⟩ : Addr).add j = (⟨g, 0, none⟩ : Addr).add ((m + 1) * 2 + j) := by simp [Addr.add]
  rw [ea]; exact h1
set_option maxHeartbeats 4000000 in
set_option maxRecDepth 100000 in
theorem in_any (A : Option Addr) (n cap : Nat) (kd : Nat → Int) (en : Nat → Ent) (x1 : Nat → Int) (x2 : Nat → Bool) (x5 : Nat → Option Addr × Nat × Nat) (w : World) (ho : OpRow w A n kd en x1 x2 x5) (hn : (n + 1) * 24 ≤ 140737488355328) :
    Calls Try.prog 20 #[.slice A n cap] w fun e w' => ∃ A' c', e = .returned (.slice A' (inF kd en n).length c') ∧ EntRow w' A' (inF kd en n).length (inF kd en n) ∧ NoTwice (inF kd en n) ∧ Below w.heap.size w w' := by
  obtain ⟨i0, hi, hiz, hi1, hi2⟩ := infoE
  have HI0 : Bx _ := ⟨And.intro hi (And.intro hiz (And.intro hi1 hi2))⟩
  have HR : Bx _ := ⟨ho⟩
  clear ho hi hiz hi1 hi2
  go_enter Try.func20, Try.ntmps20
  go_wp2_with fail
  go_loopw [3, 10] (fun v i wr => ∃ (k : Nat) (l : List Ent), i = .int .i64 k ∧ k ≤ n ∧ Bx (IIn w wr kd en v l k)) (fun _ i _ => n - (intOf i).toNat)
  case atStart => exact ⟨0, [], rfl, by omega, ⟨⟨Below.refl _ _, World.ownsRow_nil _ _ _ _, List.Pairwise.nil, Nat.le_refl _, rfl⟩⟩⟩
  case round =>
    obtain ⟨k, l, rfl, hk, HI⟩ := hrel
    by_cases hlt : k < n
    · rename World => w0
      obtain ⟨b, off, rfl, hrow⟩ := (HR.out.below HI.out.b).row (by omega)
      obtain ⟨a0, a1, a2, a3, a4, a5⟩ := hrow k hlt
      have hts := HR.out.txt k hlt
      have HST0 : Bx (inF kd en (k + 1) = stepIn (inF kd en k) (kd k) (en k)) := ⟨rfl⟩
      obtain ⟨K, hK⟩ : ∃ K, kd k = K := ⟨_, rfl⟩
      obtain ⟨r, hr⟩ : ∃ r, (en k).1 = r := ⟨_, rfl⟩
      obtain ⟨s, hs⟩ : ∃ s, (en k).2 = s := ⟨_, rfl⟩
      have HE : Bx (en k = (r, s)) := ⟨by rw [← hr, ← hs]⟩
      rw [HE.out, hK, ← HI.out.eq] at HST0
      rw [hK] at a0
      rw [hr] at a3
      rw [hs] at a4 hts
      generalize x1 k = y1 at *
      generalize x2 k = y2 at *
      generalize x5 k = y5 at *
      obtain ⟨y5a, y5n, y5c⟩ := y5
      simp only at a5
      obtain ⟨Ao, co, rfl, hrO, hfO⟩ := row_of HI.out.own rfl
      have HO : Bx _ := ⟨And.intro hrO hfO⟩
      have hlk := HI.out.len
      have hs0 := HI.out.b.size
      clear hrow hK hr hs hrO hfO
      go_upto_region 5 with (fail)
      change Code.wp _ _ _ _ (w0.alloc (.cells #[.int .i64 K, .int .i64 y1, .bool y2, .int .i64 r, strV s, .slice y5a y5n y5c] 29))
      have hbl := heap_alloc_new w0 (.cells #[.int .i64 K, .int .i64 y1, .bool y2, .int .i64 r, strV s, .slice y5a y5n y5c] 29)
      have hb2 := below1 w0 (.cells #[.int .i64 K, .int .i64 y1, .bool y2, .int .i64 r, strV s, .slice y5a y5n y5c] 29)
      have HI2 := Bx.mk (HI.out.step hb2)
      have HO2 := Bx.mk (HO.out.1.below hb2)
      clear a0 a1 a2 a3 a4 a5 HI hb2
      generalize w0.alloc (.cells #[.int .i64 K, .int .i64 y1, .bool y2, .int .i64 r, strV s, .slice y5a y5n y5c] 29) = w2 at *
      obtain ⟨B, hB⟩ : ∃ B, w0.heap.size = B := ⟨_, rfl⟩
      rw [hB] at hbl
      simp only [hB]
      have HB : Bx _ := ⟨hbl⟩
      have hlB : Bx (w.heap.size ≤ B) := ⟨by rw [← hB]; exact hs0⟩
      clear hB hbl hs0
      obtain ⟨N, hN⟩ : ∃ N, l.length = N := ⟨_, rfl⟩
      have HN : Bx (l.length = N) := ⟨hN⟩
      rw [hN] at hlk ⊢
      replace HI2 : Bx (IIn w w2 kd en (.slice Ao N co) l k) := ⟨by rw [← hN]; exact HI2.out⟩
      clear hN
      cases hf : findE l s with
      | none =>
        have HF : Bx (∀ e ∈ l, e.2 ≠ s) := ⟨findE_none hf⟩
        go_wp2_with fail
        go_loopw [6, 7] (fun a q wr => a = .int .i64 (-1) ∧ ∃ j : Nat, q = .int .i64 j ∧ j ≤ N ∧ Bx (Below w2.heap.size w2 wr)) (fun _ q _ => N - (intOf q).toNat)
        case atStart => exact ⟨rfl, 0, rfl, by omega, ⟨Below.refl _ _⟩⟩
        case round =>
          obtain ⟨rfl, j, rfl, hj, HBW⟩ := hrel
          by_cases hjk : j < N
          · have hne : ((atE l j).2 == s) = false := by have := HF.out _ (atE_mem (by rw [HN.out]; exact hjk)); simpa using this
            obtain ⟨b', off', rfl, hrow'⟩ := (HO2.out.below HBW.out).row (by rw [HN.out]; omega)
            obtain ⟨c0, c1⟩ := hrow' j (by rw [HN.out]; exact hjk)
            have z4 : wr.cell? ⟨B, 4, none⟩ = some (strV s) := cells_at ((HBW.out.block B (block_lt HB.out)).trans HB.out) 4 _ rfl
            generalize (atE l j).2 = y at *
            clear hrow' c0
            go_wp2_with fail
            have q1 := cell_regrown c1
            have q4 := cell_regrown z4
            clear c1 z4
            refine wp_region_quiet_below (by kernel_rfl) (by kernel_rfl) ?_
            repeat (go_big_quiet_step (fail))
            refine wpQuiet_nil ?_
            intro _ hw'
            obtain ⟨⟨dq, osq⟩, hw''⟩ := hw'
            subst hw''
            have HW : Bx (Below w2.heap.size w2 (Go.Sort.grow (redrawn wr dq) osq)) := ⟨HBW.out.trans ((below_regrown wr dq osq).mono HBW.out.size)⟩
            clear q1 q4 HBW
            generalize Go.Sort.grow (redrawn wr dq) osq = w3 at *
            go_wp2
            exact ⟨⟨rfl, j + 1, by rw [Int.natCast_succ], by omega, HW⟩, by simp only [intOf]; omega⟩
          · obtain rfl : N = j := by omega
            rename World => w3
            have HJ := Bx.mk (HI2.out.step HBW.out)
            have hbk := (HBW.out.block B (block_lt HB.out)).trans HB.out
            have z0 : w3.cell? ⟨B, 0, none⟩ = some (.int .i64 K) := cells_at hbk 0 _ rfl
            have z3 : w3.cell? ⟨B, 3, none⟩ = some (.int .i64 r) := cells_at hbk 3 _ rfl
            have z4 : w3.cell? ⟨B, 4, none⟩ = some (strV s) := cells_at hbk 4 _ rfl
            clear hbk
            have hst : ∀ K, K ≠ 0 → stepIn l K (r, s) = l := fun K hK => by
              unfold stepIn
              rw [show findE l ((r, s) : Ent).2 = none from hf]
              simp only
              rw [if_neg hK]
            by_cases k0 : K = 0
            · have d0 : (K == 0) = true := by simpa using k0
              have hst0 : stepIn l K (r, s) = l ++ [(r, s)] := by
                unfold stepIn
                rw [show findE l ((r, s) : Ent).2 = none from hf, k0]
                simp
              rw [hst0] at HST0
              have HFN : Bx _ := ⟨hf⟩
              clear hst hst0 k0 hf
              go_wp2_with (at_builtin; refine wpList_append_own _ rfl _ _ 23 rfl w.heap.size 27 i0 (.agg #[.int .i64 0, .string ⟨#[]⟩]) 2 24 Try.underlying23 HI0.out.1 HI0.out.2.1 HI0.out.2.2.1 HI0.out.2.2.2 rfl (by decide) _ N (entC l) rfl (by have := HJ.out.own; rw [HN.out] at this; exact this.alloc _) ⟨w3.heap.size, 0, none⟩ 1 1 [.int .i64 r, strV s] rfl rfl (news_box _ _ _ _ (box_cells w3 r s _).1 (box_cells w3 r s _).2) (oneE r s) (by unfold maxLen; omega) (by omega) (by have := HJ.out.b.size; simp only [heap_push, Array.size_push]; omega) ?_; intro v' w4 hown hg hx; clear hx; have HN1 : Bx (IIn w w4 kd en v' (l ++ [(r, s)]) (k + 1)) := ⟨⟨below_own (HJ.out.b.trans ((below1 _ _).mono HJ.out.b.size)) hg (fun g e => (HJ.out.own.lt g e).1) (by have := HJ.out.b.size; simp only [heap_push, Array.size_push]; omega), by rw [show (l ++ [(r, s)]).length = N + 1 by simp [HN.out], entC_snoc]; exact hown, noTwice_snoc HJ.out.two HFN.out, by have := HJ.out.len; simp; omega, by rw [HST0.out]⟩⟩; clear hown hg)
              all_goals exact ⟨⟨k + 1, _, by rw [Int.natCast_succ], by omega, HN1⟩, by simp only [intOf]; omega⟩
            · have d0 : (K == 0) = false := by simpa using k0
              have HST1 : Bx (stepIn l K (r, s) = l) := ⟨hst K k0⟩
              clear hst hf
              by_cases k1 : K = 1
              · have d1 : (K == 1) = true := by simpa using k1
                have d2 : (K == 2) = false := by simp [k1]
                clear k0 k1
                have HN1 : Bx (IIn w w3 kd en _ l (k + 1)) := ⟨⟨HJ.out.b, HJ.out.own, HJ.out.two, by have := HJ.out.len; omega, by rw [HST0.out]; exact HST1.out.symm⟩⟩
                go_wp2
                all_goals exact ⟨⟨k + 1, _, by rw [Int.natCast_succ], by omega, HN1⟩, by simp only [intOf]; omega⟩
              · have d1 : (K == 1) = false := by simpa using k1
                by_cases k2 : K = 2
                · have d2 : (K == 2) = true := by simpa using k2
                  clear k0 k1 k2
                  have HN1 : Bx (IIn w w3 kd en _ l (k + 1)) := ⟨⟨HJ.out.b, HJ.out.own, HJ.out.two, by have := HJ.out.len; omega, by rw [HST0.out]; exact HST1.out.symm⟩⟩
                  go_wp2
                  all_goals exact ⟨⟨k + 1, _, by rw [Int.natCast_succ], by omega, HN1⟩, by simp only [intOf]; omega⟩
                · have d2 : (K == 2) = false := by simpa using k2
                  clear k0 k1 k2
                  have HN1 : Bx (IIn w w3 kd en _ l (k + 1)) := ⟨⟨HJ.out.b, HJ.out.own, HJ.out.two, by have := HJ.out.len; omega, by rw [HST0.out]; exact HST1.out.symm⟩⟩
                  go_wp2
                  all_goals exact ⟨⟨k + 1, _, by rw [Int.natCast_succ], by omega, HN1⟩, by simp only [intOf]; omega⟩
      | some m =>
        obtain ⟨hm1, hm2⟩ := findE_some hf
        have HF : Bx (∀ j, j < N → ((atE l j).2 == s) = decide (j = m)) := ⟨fun j hj => by
          by_cases h : j = m
          · subst h; simp [hm2]
          · have : (atE l j).2 ≠ s := fun e => h (noTwice_at HI2.out.two (by rw [HN.out]; exact hj) hm1 (by rw [e, hm2]))
            simp [h, this]⟩
        rw [HN.out] at hm1
        have HM2 : Bx _ := ⟨hm2⟩
        clear hm2
        go_wp2_with fail
        go_loopw [6, 7] (fun a q wr => ∃ j : Nat, q = .int .i64 j ∧ j ≤ N ∧ ((j ≤ m ∧ a = .int .i64 (-1)) ∨ (m < j ∧ a = .int .i64 m)) ∧ Bx (Below w2.heap.size w2 wr)) (fun _ q _ => N - (intOf q).toNat)
        case atStart => exact ⟨0, rfl, by omega, Or.inl ⟨by omega, rfl⟩, ⟨Below.refl _ _⟩⟩
        case round =>
          obtain ⟨j, rfl, hj, ha, HBW⟩ := hrel
          by_cases hjk : j < N
          · have hne := HF.out j hjk
            by_cases hjm : j = m
            · have hne' : ((atE l j).2 == s) = true := by rw [hne]; simp [hjm]
              have HJM : Bx (j = m) := ⟨hjm⟩
              clear hne hjm
              obtain ⟨b', off', rfl, hrow'⟩ := (HO2.out.below HBW.out).row (by rw [HN.out]; omega)
              obtain ⟨c0, c1⟩ := hrow' j (by rw [HN.out]; exact hjk)
              have z4 : wr.cell? ⟨B, 4, none⟩ = some (strV s) := cells_at ((HBW.out.block B (block_lt HB.out)).trans HB.out) 4 _ rfl
              generalize (atE l j).2 = y at *
              clear hrow' c0
              go_wp2_with fail
              have q1 := cell_regrown c1
              have q4 := cell_regrown z4
              clear c1 z4
              refine wp_region_quiet_below (by kernel_rfl) (by kernel_rfl) ?_
              repeat (go_big_quiet_step (fail))
              refine wpQuiet_nil ?_
              intro _ hw'
              obtain ⟨⟨dq, osq⟩, hw''⟩ := hw'
              subst hw''
              have HW : Bx (Below w2.heap.size w2 (Go.Sort.grow (redrawn wr dq) osq)) := ⟨HBW.out.trans ((below_regrown wr dq osq).mono HBW.out.size)⟩
              clear q1 q4 HBW
              generalize Go.Sort.grow (redrawn wr dq) osq = w3 at *
              go_wp2
              exact ⟨⟨j + 1, by rw [Int.natCast_succ], by omega, Or.inr ⟨by have := HJM.out; omega, by rw [HJM.out]⟩, HW⟩, by simp only [intOf]; omega⟩
            · have hne' : ((atE l j).2 == s) = false := by rw [hne]; simp [hjm]
              have HJM : Bx (j ≠ m) := ⟨hjm⟩
              have HAA : Bx _ := ⟨ha⟩
              clear hne hjm ha
              obtain ⟨b', off', rfl, hrow'⟩ := (HO2.out.below HBW.out).row (by rw [HN.out]; omega)
              obtain ⟨c0, c1⟩ := hrow' j (by rw [HN.out]; exact hjk)
              have z4 : wr.cell? ⟨B, 4, none⟩ = some (strV s) := cells_at ((HBW.out.block B (block_lt HB.out)).trans HB.out) 4 _ rfl
              generalize (atE l j).2 = y at *
              clear hrow' c0
              go_wp2_with fail
              have q1 := cell_regrown c1
              have q4 := cell_regrown z4
              clear c1 z4
              refine wp_region_quiet_below (by kernel_rfl) (by kernel_rfl) ?_
              repeat (go_big_quiet_step (fail))
              refine wpQuiet_nil ?_
              intro _ hw'
              obtain ⟨⟨dq, osq⟩, hw''⟩ := hw'
              subst hw''
              have HW : Bx (Below w2.heap.size w2 (Go.Sort.grow (redrawn wr dq) osq)) := ⟨HBW.out.trans ((below_regrown wr dq osq).mono HBW.out.size)⟩
              clear q1 q4 HBW
              generalize Go.Sort.grow (redrawn wr dq) osq = w3 at *
              go_wp2
              exact ⟨⟨j + 1, by rw [Int.natCast_succ], by omega, by rcases HAA.out with h | h; exact Or.inl ⟨by have := HJM.out; omega, h.2⟩; exact Or.inr ⟨by omega, h.2⟩, HW⟩, by simp only [intOf]; omega⟩
          · obtain rfl : N = j := by omega
            rcases ha with ⟨h, _⟩ | ⟨_, rfl⟩
            · omega
            rename World => w3
            have HJ := Bx.mk (HI2.out.step HBW.out)
            have hbk := (HBW.out.block B (block_lt HB.out)).trans HB.out
            have z0 : w3.cell? ⟨B, 0, none⟩ = some (.int .i64 K) := cells_at hbk 0 _ rfl
            have z3 : w3.cell? ⟨B, 3, none⟩ = some (.int .i64 r) := cells_at hbk 3 _ rfl
            have z4 : w3.cell? ⟨B, 4, none⟩ = some (strV s) := cells_at hbk 4 _ rfl
            clear hbk
            have hst : ∀ K, K ≠ 1 → K ≠ 2 → stepIn l K (r, s) = l := fun K h1 h2 => by
              unfold stepIn
              rw [show findE l ((r, s) : Ent).2 = some m from hf]
              simp only
              rw [if_neg h1, if_neg h2]
            obtain ⟨g, hg, hge⟩ := HO.out.2 (by rw [HN.out]; omega)
            subst hg
            have hrow3 := HO2.out.below HBW.out
            have HG3 := Bx.mk (And.intro hge hrow3)
            clear hge hrow3
            by_cases k1 : K = 1
            · have d1 : (K == 1) = true := by simpa using k1
              have d0 : (K == 0) = false := by simp [k1]
              have HST1 : Bx (stepIn l K (r, s) = l.eraseIdx m) := ⟨by unfold stepIn; rw [show findE l ((r, s) : Ent).2 = some m from hf, k1]; simp⟩
              clear hst hf k1
              have hm0 : (0 : Int) ≤ m := by omega
              have b1 : IntKind.i64.wrap ((m : Int) + 1) = m + 1 := IntWalk.i64_in _ (by omega)
              have hown0 := HJ.out.own
              rw [HN.out] at hown0
              have hco : N ≤ co := (own_cap (own_base hown0)).1
              have HNW : Bx (∀ x, Below w3.heap.size w3 x → ∀ (j : Nat) (u : Value), (entC l)[j]? = some u → x.cell? ((⟨g, 0, none⟩ : Addr).add j) = some u) := ⟨fun x hx j u hj => by
                obtain ⟨b', off', e, hc⟩ := (HG3.out.2.below hx).row (by rw [HN.out]; omega)
                injection e with e
                injection e with e e'
                subst e e'
                exact EntRow.cells rfl hc j u hj⟩
              have HGL : Bx (g < w3.heap.size) := ⟨(own_cap (own_base hown0)).2.2⟩
              have hmc : m ≤ co := by omega
              have hmN : m + 1 ≤ N := by omega
              have hm01 : (0 : Int) ≤ (m : Int) + 1 := by omega
              have hmN2 : (m : Int) + 1 ≤ N := by omega
              have hNc2 : (N : Int) ≤ co := by omega
              have HMD : Bx ((w3.alloc (.cells #[] 27)).drew.ownsRow w.heap.size 27 2 (.slice (some ⟨w3.heap.size, 0, none⟩) 0 0) 0 []) := ⟨World.ownsRow_made w3 #[] 0 HJ.out.b.size (by decide) rfl⟩
              have HER : Bx (entC (l.eraseIdx m) = entC (l.take m) ++ entC (l.drop (m + 1))) := ⟨by rw [List.eraseIdx_eq_take_drop_succ, entC_app]⟩
              clear hown0
              go_wp2_with fail
              by_cases hcm : co = m + 1
              · have hl1 : (l.take m).length = m := by rw [List.length_take, HN.out]; omega
                have hl2 : (l.drop (m + 1)).length = 0 := by rw [List.length_drop, HN.out]; omega
                have HL12 : Bx _ := ⟨And.intro hl1 hl2⟩
                have HNM : Bx (N = m + 1) := ⟨by omega⟩
                have hN1 : N - (m + 1) = 0 := by omega
                have hc1 : co - (m + 1) = 0 := by omega
                have hmc1 : m ≤ m + 1 := by omega
                have hmc2 : (m : Int) ≤ (m : Int) + 1 := by omega
                subst hcm
                clear hl1 hl2
                go_region_law (first | (refine step_append_own rfl _ _ rfl w.heap.size (.slice (some ⟨w3.heap.size, 0, none⟩) 0 0) 0 [] (by simp [Act.eval, Act.put]) HMD.out ⟨g, 0, none⟩ m (m + 1) (entC (l.take m)) (by simp [Act.eval, Act.put]) (by rw [entC_len, HL12.out.1]) (news_take (HNW.out _ (below1 w3 (.cells #[] 27)).drew)) (entC_one _) (by unfold maxLen; omega) (by omega) (by have := HJ.out.b.size; show _ ≤ (w3.heap.push _).size; rw [Array.size_push]; omega) ?_; intro v1 w4 hown1 hg1 hx1; clear hx1; rw [Nat.zero_add, List.nil_append] at hown1; have HV1 := Bx.mk (And.intro hown1 (below_own (B := w3.heap.size) (below1 w3 (.cells #[] 27)).drew hg1 (fun g e => by simp [Value.ownBlock] at e; omega) (by show _ ≤ (w3.heap.push _).size; rw [Array.size_push]; omega))); clear hown1 hg1) | (refine step_append_own rfl _ _ rfl w.heap.size v1 m (entC (l.take m)) (by simp [Act.eval, Act.put]) HV1.out.1 ⟨g, 0, none⟩ 0 0 (entC (l.drop (m + 1))) (by simp [Act.eval, Act.put]) (by rw [entC_len, HL12.out.2]) (fun j u hj => by rw [List.drop_eq_nil_of_le (by rw [HN.out, HNM.out] ; exact Nat.le_refl _)] at hj ; simp [entC] at hj) (entC_one _) (by unfold maxLen; omega) (by omega) (Nat.le_trans HJ.out.b.size HV1.out.2.size) ?_; intro v2 w5 hown2 hg2 hx2; clear hx2; have HN1 : Bx (IIn w w5 kd en v2 (l.eraseIdx m) (k + 1)) := ⟨⟨below_own (HJ.out.b.trans (HV1.out.2.mono HJ.out.b.size)) hg2 (fun g e => (HV1.out.1.lt g e).1) (Nat.le_trans HJ.out.b.size HV1.out.2.size), by rw [HER.out, List.length_eraseIdx, if_pos (by rw [HN.out]; exact hm1), HN.out]; have e : N - 1 = m + 0 := (by omega); rw [e]; exact hown2, HJ.out.two.sublist (List.eraseIdx_sublist l m), by rw [List.length_eraseIdx]; have := HJ.out.len; split <;> omega, by rw [HST0.out]; exact HST1.out.symm⟩⟩; clear hown2 hg2))
                all_goals go_wp2
                all_goals exact ⟨⟨k + 1, _, by rw [Int.natCast_succ], by omega, HN1⟩, by simp only [intOf]; omega⟩
              · have hl1 : (l.take m).length = m := by rw [List.length_take, HN.out]; omega
                have hl2 : (l.drop (m + 1)).length = N - (m + 1) := by rw [List.length_drop, HN.out]
                have HL12 : Bx _ := ⟨And.intro hl1 hl2⟩
                clear hl1 hl2
                go_region_law (first | (refine step_append_own rfl _ _ rfl w.heap.size (.slice (some ⟨w3.heap.size, 0, none⟩) 0 0) 0 [] (by simp [Act.eval, Act.put]) HMD.out ⟨g, 0, none⟩ m co (entC (l.take m)) (by simp [Act.eval, Act.put]) (by rw [entC_len, HL12.out.1]) (news_take (HNW.out _ (below1 w3 (.cells #[] 27)).drew)) (entC_one _) (by unfold maxLen; omega) (by omega) (by have := HJ.out.b.size; show _ ≤ (w3.heap.push _).size; rw [Array.size_push]; omega) ?_; intro v1 w4 hown1 hg1 hx1; clear hx1; rw [Nat.zero_add, List.nil_append] at hown1; have HV1 := Bx.mk (And.intro hown1 (below_own (B := w3.heap.size) (below1 w3 (.cells #[] 27)).drew hg1 (fun g e => by simp [Value.ownBlock] at e; omega) (by show _ ≤ (w3.heap.push _).size; rw [Array.size_push]; omega))); clear hown1 hg1) | (refine step_append_own rfl _ _ rfl w.heap.size v1 m (entC (l.take m)) (by simp [Act.eval, Act.put]) HV1.out.1 ⟨g, (m + 1) * 2, none⟩ (N - (m + 1)) (co - (m + 1)) (entC (l.drop (m + 1))) (by simp [Act.eval, Act.put]) (by rw [entC_len, HL12.out.2]) (news_drop (HNW.out _ HV1.out.2) (by rw [HN.out] ; omega)) (entC_one _) (by unfold maxLen; omega) (by omega) (Nat.le_trans HJ.out.b.size HV1.out.2.size) ?_; intro v2 w5 hown2 hg2 hx2; clear hx2; have HN1 : Bx (IIn w w5 kd en v2 (l.eraseIdx m) (k + 1)) := ⟨⟨below_own (HJ.out.b.trans (HV1.out.2.mono HJ.out.b.size)) hg2 (fun g e => (HV1.out.1.lt g e).1) (Nat.le_trans HJ.out.b.size HV1.out.2.size), by rw [HER.out, List.length_eraseIdx, if_pos (by rw [HN.out]; exact hm1), HN.out]; have e : N - 1 = m + (N - (m + 1)) := (by omega); rw [e]; exact hown2, HJ.out.two.sublist (List.eraseIdx_sublist l m), by rw [List.length_eraseIdx]; have := HJ.out.len; split <;> omega, by rw [HST0.out]; exact HST1.out.symm⟩⟩; clear hown2 hg2))
                all_goals go_wp2
                all_goals exact ⟨⟨k + 1, _, by rw [Int.natCast_succ], by omega, HN1⟩, by simp only [intOf]; omega⟩
            · have d1 : (K == 1) = false := by simpa using k1
              by_cases k2 : K = 2
              · have d2 : (K == 2) = true := by simpa using k2
                have d0 : (K == 0) = false := by simp [k2]
                have HST1 : Bx (stepIn l K (r, s) = l.set m (r, (atE l m).2)) := ⟨by unfold stepIn; rw [show findE l ((r, s) : Ent).2 = some m from hf, k2]; simp⟩
                have HMD : Bx ((w3.alloc (.cells #[] 27)).ownsRow w.heap.size 27 2 (.slice (some ⟨w3.heap.size, 0, none⟩) 0 0) 0 []) := ⟨World.ownsRow_made w3 #[] 0 HJ.out.b.size (by decide) rfl⟩
                have hnews : ∀ (j : Nat) (u : Value), (entC l)[j]? = some u → (w3.alloc (.cells #[] 27)).cell? ((⟨g, 0, none⟩ : Addr).add j) = some u := fun j u hj => by
                  obtain ⟨b', off', e, hc⟩ := (HG3.out.2.below (below1 w3 (.cells #[] 27))).row (by rw [HN.out]; omega)
                  injection e with e
                  injection e with e e'
                  subst e e'
                  exact EntRow.cells rfl hc j u hj
                have HNW : Bx _ := ⟨hnews⟩
                have HB3 : Bx (B < w3.heap.size) := ⟨cell_lt z3⟩
                clear hst hf k1 k2 hnews
                go_upto_region 17 with (at_builtin; refine wpList_append_own _ rfl _ _ 23 rfl w.heap.size 27 i0 (.agg #[.int .i64 0, .string ⟨#[]⟩]) 2 24 Try.underlying23 HI0.out.1 HI0.out.2.1 HI0.out.2.2.1 HI0.out.2.2.2 rfl (by decide) _ 0 [] rfl HMD.out ⟨g, 0, none⟩ N co (entC l) rfl (by rw [entC_len, HN.out]) HNW.out (entC_one l) (by unfold maxLen; omega) (by omega) (by have := HJ.out.b.size; simp only [heap_push, Array.size_push]; omega) ?_; intro v' w4 hown hg hx; clear hx; have HOW := Bx.mk (And.intro hown hg); clear hown hg)
                have hown := HOW.out.1
                have hg := HOW.out.2
                rw [Nat.zero_add, List.nil_append] at hown
                obtain ⟨g4, cap4, rfl, hge4⟩ := own_ge hown (by omega)
                obtain ⟨e0, _⟩ := ent_cells (own_base hown) HN.out.symm (show m < l.length by rw [HN.out]; exact hm1)
                have f0 := hown.frozenAt (m * 2)
                have y3 : w4.cell? ⟨B, 3, none⟩ = some (.int .i64 r) := hg.cell (a := ⟨B, 3, none⟩) (by rw [World.cell?_alloc_lt _ _ _ HB3.out]; exact z3) (by have := HB3.out; intro e; injection e with e; simp only at e; omega)
                have hb4 := below_own (HJ.out.b.trans ((below1 w3 (.cells #[] 27)).mono HJ.out.b.size)) hg (fun g e => (HMD.out.lt g e).1) (Nat.le_trans HJ.out.b.size (by simp))
                have HN1 : Bx (IIn w (w4.setCell ⟨g4, m * 2, none⟩ (.int .i64 r)) kd en (.slice (some ⟨g4, 0, none⟩) N cap4) (l.set m (r, (atE l m).2)) (k + 1)) := ⟨⟨hb4.setCell hge4 _, by rw [List.length_set, HN.out]; exact own_rank hown (by rw [HN.out]; exact hm1), turn_two HJ.out.two, by rw [List.length_set]; have := HJ.out.len; omega, by rw [HST0.out]; exact HST1.out.symm⟩⟩
                clear hown hg hb4 HOW
                generalize (atE l m).1 = x at *
                go_wp2
                all_goals exact ⟨⟨k + 1, _, by rw [Int.natCast_succ], by omega, HN1⟩, by simp only [intOf]; omega⟩
              · have d2 : (K == 2) = false := by simpa using k2
                have HST1 : Bx (stepIn l K (r, s) = l) := ⟨hst K k1 k2⟩
                by_cases k0 : K = 0
                · have d0 : (K == 0) = true := by simpa using k0
                  clear k0 k1 k2 hst hf
                  have HN1 : Bx (IIn w w3 kd en _ l (k + 1)) := ⟨⟨HJ.out.b, HJ.out.own, HJ.out.two, by have := HJ.out.len; omega, by rw [HST0.out]; exact HST1.out.symm⟩⟩
                  go_wp2
                  all_goals exact ⟨⟨k + 1, _, by rw [Int.natCast_succ], by omega, HN1⟩, by simp only [intOf]; omega⟩
                · have d0 : (K == 0) = false := by simpa using k0
                  clear k0 k1 k2 hst hf
                  have HN1 : Bx (IIn w w3 kd en _ l (k + 1)) := ⟨⟨HJ.out.b, HJ.out.own, HJ.out.two, by have := HJ.out.len; omega, by rw [HST0.out]; exact HST1.out.symm⟩⟩
                  go_wp2
                  all_goals exact ⟨⟨k + 1, _, by rw [Int.natCast_succ], by omega, HN1⟩, by simp only [intOf]; omega⟩
    · obtain rfl : n = k := by omega
      obtain ⟨A', c', rfl, hrow, hf⟩ := row_of HI.out.own rfl
      have HF : Bx _ := ⟨And.intro hrow (And.intro HI.out.two HI.out.b)⟩
      have HEQ : Bx _ := ⟨HI.out.eq⟩
      clear hrow hf HI
      go_wp2
      go_ret
      rw [← HEQ.out]
      exact ⟨A', c', rfl, HF.out⟩
end Go.Proofs.Ytlodgmmhaolmaaa
