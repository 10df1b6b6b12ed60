/- The reference's Wide, right, IsName, IsText, IsWord. -/
import Derived.Test.YtbcajmkmadgbhaaGreatDoorKeyA
set_option linter.unusedSimpArgs false
set_option linter.unusedVariables false
namespace Go.Proofs.YtbcajmkmadgbhaaGreatDoor
open Go.RowKit
theorem getD_toArray {l : List UInt8} {k : Nat} (h : k < l.length) : ((⟨l.toArray⟩ : ByteArray)[k]'(by simpa [ByteArray.size] using h)) = l.getD k 0 := by
  rw [List.getD_eq_getElem?_getD, List.getElem?_eq_getElem h]; rfl
/-- where Wide stands -/
structure WV (l : List UInt8) (v0 k x : Nat) : Prop where
  c : ∀ j, 1 ≤ j → j < k → cont l j
  v : x = val l v0 k
  b : (k = 1 → x < 32) ∧ (k = 2 → x < 2048) ∧ (k = 3 → x < 131072) ∧ (k = 4 → x < 8388608)
theorem WV.step {l : List UInt8} {v0 k x y : Nat} (g : WV l v0 k x) (h1 : 1 ≤ k) (h3 : k ≤ 3) (hc : cont l k) (hy : (l.getD k 0).toNat - 128 = y) : WV l v0 (k + 1) (x * 64 + y) where
  c := fun j a b => by
    rcases Nat.lt_or_ge j k with h | h
    · exact g.c j a h
    · obtain rfl : j = k := by omega
      exact hc
  v := by rw [val_succ _ _ _ h1, ← g.v, hy]
  b := by
    have := g.b
    unfold cont at hc
    have : y < 64 := by omega
    refine ⟨by omega, by omega, by omega, by omega⟩
set_option maxHeartbeats 4000000 in
set_option maxRecDepth 100000 in
theorem wide_any (l : List UInt8) (w : World) (hl : l.length ≤ 9223372036854775807) :
    Calls Tryz.prog 114 #[strV l] w fun e w' => e = .returned (.int .i64 (wideL l : Nat)) ∧ w = w' := by
  by_cases hne : l = []
  · subst hne
    rw [wideL_nil]
    go_enter Tryz.func114, Tryz.ntmps114
    go_wp2
    go_ret
    exact ⟨rfl, rfl⟩
  · have hpos : 0 < l.length := List.length_pos_iff.2 hne
    obtain ⟨c, hc⟩ : ∃ c, l.getD 0 0 = c := ⟨_, rfl⟩
    have hc0 : ((⟨l.toArray⟩ : ByteArray)[0]'(by simpa [ByteArray.size] using hpos)) = c := by rw [getD_toArray hpos, hc]
    have HC : Bx (l.getD 0 0 = c) := ⟨hc⟩
    have HN : Bx (l ≠ []) := ⟨hne⟩
    have hne1 : (l == []) = false := by simpa using hne
    have hne2 : l.isEmpty = false := by simpa using hne
    clear hc hne
    by_cases h128 : c.toNat < 128
    · have hw : wideL l = 1 := wide_lo HN.out (by rw [HC.out]; exact h128)
      rw [hw]
      clear hw
      go_enter Tryz.func114, Tryz.ntmps114
      go_wp2
      go_ret
      exact ⟨rfl, rfl⟩
    · by_cases h194 : 194 ≤ c.toNat
      · by_cases h245 : c.toNat < 245
        · have hcls : ∃ n least v0, Cls c.toNat n least v0 := by
            unfold Cls
            by_cases h224 : c.toNat < 224
            · exact ⟨2, 128, _, .inl ⟨h194, h224, rfl, rfl, rfl⟩⟩
            · by_cases h240 : c.toNat < 240
              · exact ⟨3, 2048, _, .inr (.inl ⟨by omega, h240, rfl, rfl, rfl⟩)⟩
              · exact ⟨4, 65536, _, .inr (.inr ⟨by omega, h245, rfl, rfl, rfl⟩)⟩
          obtain ⟨n, least, v0, hcls⟩ := hcls
          have HCls : Bx (Cls (l.getD 0 0).toNat n least v0) := ⟨by rw [HC.out]; exact hcls⟩
          have hfail := fun (k : Nat) (h1 : 1 ≤ k) (hk : k < n) (hn : ¬ cont l k) => wide_fail HN.out HCls.out h1 hk hn
          have HFail : Bx (∀ (k : Nat), 1 ≤ k → k < n → ¬ cont l k → wideL l = 0) := ⟨hfail⟩
          have hdone := fun (hk : ∀ j, 1 ≤ j → j < n → cont l j) => wide_done HN.out HCls.out hk
          have HDone : Bx ((∀ j, 1 ≤ j → j < n → cont l j) → wideL l = if val l v0 n < least ∨ (55296 ≤ val l v0 n ∧ val l v0 n < 57344) ∨ 1114111 < val l v0 n then 0 else n) := ⟨hdone⟩
          clear hfail hdone
          generalize hW : wideL l = W at *
          clear hW
          unfold Cls at hcls
          rcases hcls with ⟨c1, c2, rfl, rfl, hv⟩ | ⟨c1, c2, rfl, rfl, hv⟩ | ⟨c1, c2, rfl, rfl, hv⟩
          · have hvi : (c.toNat : Int) - 192 = v0 := by omega
            have d0 : decide ((c.toNat : Int) < 128) = false := by simp; omega
            have d1 : decide (194 ≤ (c.toNat : Int)) = true := by simp; omega
            have d2 : decide ((c.toNat : Int) < 224) = true := by simp; omega
            have hs : WV l v0 1 v0 := ⟨fun j a b => by omega, rfl, by refine ⟨by omega, by omega, by omega, by omega⟩⟩
            have t1 : ¬ 224 ≤ c.toNat := by omega
            have t2 : ¬ 240 ≤ c.toNat := by omega
            clear hv
            go_enter Tryz.func114, Tryz.ntmps114
            go_wp2_with fail
            clear hc0 HCls
            go_loopw [6, 7] (fun v i wr => ∃ k x : Nat, 1 ≤ k ∧ k ≤ 2 ∧ x ≤ 8388608 ∧ i = .int .i64 k ∧ v = .int .i64 x ∧ WV l v0 k x ∧ wr = w) (fun _ i _ => 2 - (intOf i).toNat)
            case atStart => exact ⟨1, v0, by omega, by omega, by omega, rfl, rfl, hs, rfl⟩
            case round =>
              obtain ⟨k, x, hk1, hk2, hx, rfl, rfl, HV, rfl⟩ := hrel
              clear hs hvi
              by_cases hk : k < 2
              · by_cases hlen : k < l.length
                · obtain ⟨a, ha⟩ : ∃ a, l.getD k 0 = a := ⟨_, rfl⟩
                  have hak : ((⟨l.toArray⟩ : ByteArray)[k]'(by simpa [ByteArray.size] using hlen)) = a := by rw [getD_toArray hlen, ha]
                  by_cases g1 : a.toNat < 128
                  · have HW := HFail.out k hk1 hk (by unfold cont; rw [ha]; omega)
                    subst HW
                    go_wp2
                    go_ret
                    exact ⟨rfl, rfl⟩
                  · by_cases g2 : 192 ≤ a.toNat
                    · have HW := HFail.out k hk1 hk (by unfold cont; rw [ha]; omega)
                      subst HW
                      go_wp2
                      go_ret
                      exact ⟨rfl, rfl⟩
                    · obtain ⟨y, hy⟩ : ∃ y, a.toNat - 128 = y := ⟨_, rfl⟩
                      have hyi : (a.toNat : Int) - 128 = y := by omega
                      have HV2 := HV.step (y := y) hk1 (by omega) (by unfold cont; rw [ha]; exact ⟨hlen, by omega, by omega⟩) (by rw [ha, hy])
                      have hxb : x ≤ 131071 := by have := HV.b; omega
                      have hyb : y ≤ 63 := by omega
                      clear hy ha HV
                      go_wp2
                      exact ⟨⟨k + 1, x * 64 + y, by omega, by omega, by omega, by rw [Int.natCast_succ], by rw [Int.natCast_add, Int.natCast_mul]; rfl, HV2, trivial⟩, by simp only [intOf]; omega⟩
                · have HW := HFail.out k hk1 hk (by unfold cont; omega)
                  subst HW
                  go_wp2
                  go_ret
                  exact ⟨rfl, rfl⟩
              · obtain rfl : k = 2 := by omega
                have HW := HDone.out HV.c
                rw [← HV.v] at HW
                clear HDone HFail HV hk1 hk2 hk
                by_cases hbad : x < 128 ∨ (55296 ≤ x ∧ x < 57344) ∨ 1114111 < x
                · rw [if_pos hbad] at HW
                  subst HW
                  by_cases b1 : x < 128
                  · go_wp2
                    go_ret
                    exact ⟨rfl, rfl⟩
                  · by_cases b2 : 1114111 < x
                    · have b3 : ¬ x < 57344 := by omega
                      have b4 : 55296 ≤ x := by omega
                      go_wp2
                      all_goals (go_ret; exact ⟨rfl, rfl⟩)
                    · have b3 : x < 57344 := by omega
                      have b4 : 55296 ≤ x := by omega
                      go_wp2
                      all_goals (go_ret; exact ⟨rfl, rfl⟩)
                · rw [if_neg hbad] at HW
                  subst HW
                  have b1 : ¬ x < 128 := by omega
                  have b2 : ¬ 1114111 < x := by omega
                  by_cases b4 : 55296 ≤ x
                  · have b3 : ¬ x < 57344 := by omega
                    clear hbad
                    go_wp2
                    all_goals (go_ret; exact ⟨rfl, rfl⟩)
                  · clear hbad
                    go_wp2
                    all_goals (go_ret; exact ⟨rfl, rfl⟩)
          · have hvi : (c.toNat : Int) - 224 = v0 := by omega
            have d0 : decide ((c.toNat : Int) < 128) = false := by simp; omega
            have d1 : decide (194 ≤ (c.toNat : Int)) = true := by simp; omega
            have d2 : decide ((c.toNat : Int) < 224) = false := by simp; omega
            have d3 : decide (224 ≤ (c.toNat : Int)) = true := by simp; omega
            have d4 : decide ((c.toNat : Int) < 240) = true := by simp; omega
            have hs : WV l v0 1 v0 := ⟨fun j a b => by omega, rfl, by refine ⟨by omega, by omega, by omega, by omega⟩⟩
            have t1 : ¬ c.toNat < 224 := by omega
            have t2 : ¬ 240 ≤ c.toNat := by omega
            clear hv
            go_enter Tryz.func114, Tryz.ntmps114
            go_wp2_with fail
            clear hc0 HCls
            go_loopw [6, 7] (fun v i wr => ∃ k x : Nat, 1 ≤ k ∧ k ≤ 3 ∧ x ≤ 8388608 ∧ i = .int .i64 k ∧ v = .int .i64 x ∧ WV l v0 k x ∧ wr = w) (fun _ i _ => 3 - (intOf i).toNat)
            case atStart => exact ⟨1, v0, by omega, by omega, by omega, rfl, rfl, hs, rfl⟩
            case round =>
              obtain ⟨k, x, hk1, hk2, hx, rfl, rfl, HV, rfl⟩ := hrel
              clear hs hvi
              by_cases hk : k < 3
              · by_cases hlen : k < l.length
                · obtain ⟨a, ha⟩ : ∃ a, l.getD k 0 = a := ⟨_, rfl⟩
                  have hak : ((⟨l.toArray⟩ : ByteArray)[k]'(by simpa [ByteArray.size] using hlen)) = a := by rw [getD_toArray hlen, ha]
                  by_cases g1 : a.toNat < 128
                  · have HW := HFail.out k hk1 hk (by unfold cont; rw [ha]; omega)
                    subst HW
                    go_wp2
                    all_goals (go_ret; exact ⟨rfl, rfl⟩)
                  · by_cases g2 : 192 ≤ a.toNat
                    · have HW := HFail.out k hk1 hk (by unfold cont; rw [ha]; omega)
                      subst HW
                      go_wp2
                      all_goals (go_ret; exact ⟨rfl, rfl⟩)
                    · obtain ⟨y, hy⟩ : ∃ y, a.toNat - 128 = y := ⟨_, rfl⟩
                      have hyi : (a.toNat : Int) - 128 = y := by omega
                      have HV2 := HV.step (y := y) hk1 (by omega) (by unfold cont; rw [ha]; exact ⟨hlen, by omega, by omega⟩) (by rw [ha, hy])
                      have hxb : x ≤ 131071 := by have := HV.b; omega
                      have hyb : y ≤ 63 := by omega
                      clear hy ha HV
                      go_wp2
                      exact ⟨⟨k + 1, x * 64 + y, by omega, by omega, by omega, by rw [Int.natCast_succ], by rw [Int.natCast_add, Int.natCast_mul]; rfl, HV2, trivial⟩, by simp only [intOf]; omega⟩
                · have HW := HFail.out k hk1 hk (by unfold cont; omega)
                  subst HW
                  go_wp2
                  all_goals (go_ret; exact ⟨rfl, rfl⟩)
              · obtain rfl : k = 3 := by omega
                have HW := HDone.out HV.c
                rw [← HV.v] at HW
                clear HDone HFail HV hk1 hk2 hk
                by_cases hbad : x < 2048 ∨ (55296 ≤ x ∧ x < 57344) ∨ 1114111 < x
                · rw [if_pos hbad] at HW
                  subst HW
                  by_cases b1 : x < 2048
                  · go_wp2
                    go_ret
                    exact ⟨rfl, rfl⟩
                  · by_cases b2 : 1114111 < x
                    · have b3 : ¬ x < 57344 := by omega
                      have b4 : 55296 ≤ x := by omega
                      go_wp2
                      all_goals (go_ret; exact ⟨rfl, rfl⟩)
                    · have b3 : x < 57344 := by omega
                      have b4 : 55296 ≤ x := by omega
                      go_wp2
                      all_goals (go_ret; exact ⟨rfl, rfl⟩)
                · rw [if_neg hbad] at HW
                  subst HW
                  have b1 : ¬ x < 2048 := by omega
                  have b2 : ¬ 1114111 < x := by omega
                  by_cases b4 : 55296 ≤ x
                  · have b3 : ¬ x < 57344 := by omega
                    clear hbad
                    go_wp2
                    all_goals (go_ret; exact ⟨rfl, rfl⟩)
                  · clear hbad
                    go_wp2
                    all_goals (go_ret; exact ⟨rfl, rfl⟩)
          · have hvi : (c.toNat : Int) - 240 = v0 := by omega
            have d0 : decide ((c.toNat : Int) < 128) = false := by simp; omega
            have d1 : decide (194 ≤ (c.toNat : Int)) = true := by simp; omega
            have d2 : decide ((c.toNat : Int) < 224) = false := by simp; omega
            have d3 : decide (224 ≤ (c.toNat : Int)) = true := by simp; omega
            have d4 : decide ((c.toNat : Int) < 240) = false := by simp; omega
            have d5 : decide (240 ≤ (c.toNat : Int)) = true := by simp; omega
            have d6 : decide ((c.toNat : Int) < 245) = true := by simp; omega
            have hs : WV l v0 1 v0 := ⟨fun j a b => by omega, rfl, by refine ⟨by omega, by omega, by omega, by omega⟩⟩
            have t1 : ¬ c.toNat < 224 := by omega
            have t2 : ¬ c.toNat < 240 := by omega
            have t3 : 224 ≤ c.toNat := by omega
            clear hv
            go_enter Tryz.func114, Tryz.ntmps114
            go_wp2_with fail
            clear hc0 HCls
            go_loopw [6, 7] (fun v i wr => ∃ k x : Nat, 1 ≤ k ∧ k ≤ 4 ∧ x ≤ 8388608 ∧ i = .int .i64 k ∧ v = .int .i64 x ∧ WV l v0 k x ∧ wr = w) (fun _ i _ => 4 - (intOf i).toNat)
            case atStart => exact ⟨1, v0, by omega, by omega, by omega, rfl, rfl, hs, rfl⟩
            case round =>
              obtain ⟨k, x, hk1, hk2, hx, rfl, rfl, HV, rfl⟩ := hrel
              clear hs hvi
              by_cases hk : k < 4
              · by_cases hlen : k < l.length
                · obtain ⟨a, ha⟩ : ∃ a, l.getD k 0 = a := ⟨_, rfl⟩
                  have hak : ((⟨l.toArray⟩ : ByteArray)[k]'(by simpa [ByteArray.size] using hlen)) = a := by rw [getD_toArray hlen, ha]
                  by_cases g1 : a.toNat < 128
                  · have HW := HFail.out k hk1 hk (by unfold cont; rw [ha]; omega)
                    subst HW
                    go_wp2
                    all_goals (go_ret; exact ⟨rfl, rfl⟩)
                  · by_cases g2 : 192 ≤ a.toNat
                    · have HW := HFail.out k hk1 hk (by unfold cont; rw [ha]; omega)
                      subst HW
                      go_wp2
                      all_goals (go_ret; exact ⟨rfl, rfl⟩)
                    · obtain ⟨y, hy⟩ : ∃ y, a.toNat - 128 = y := ⟨_, rfl⟩
                      have hyi : (a.toNat : Int) - 128 = y := by omega
                      have HV2 := HV.step (y := y) hk1 (by omega) (by unfold cont; rw [ha]; exact ⟨hlen, by omega, by omega⟩) (by rw [ha, hy])
                      have hxb : x ≤ 131071 := by have := HV.b; omega
                      have hyb : y ≤ 63 := by omega
                      clear hy ha HV
                      go_wp2
                      exact ⟨⟨k + 1, x * 64 + y, by omega, by omega, by omega, by rw [Int.natCast_succ], by rw [Int.natCast_add, Int.natCast_mul]; rfl, HV2, trivial⟩, by simp only [intOf]; omega⟩
                · have HW := HFail.out k hk1 hk (by unfold cont; omega)
                  subst HW
                  go_wp2
                  all_goals (go_ret; exact ⟨rfl, rfl⟩)
              · obtain rfl : k = 4 := by omega
                have HW := HDone.out HV.c
                rw [← HV.v] at HW
                clear HDone HFail HV hk1 hk2 hk
                by_cases hbad : x < 65536 ∨ (55296 ≤ x ∧ x < 57344) ∨ 1114111 < x
                · rw [if_pos hbad] at HW
                  subst HW
                  by_cases b1 : x < 65536
                  · go_wp2
                    go_ret
                    exact ⟨rfl, rfl⟩
                  · by_cases b2 : 1114111 < x
                    · have b3 : ¬ x < 57344 := by omega
                      have b4 : 55296 ≤ x := by omega
                      go_wp2
                      all_goals (go_ret; exact ⟨rfl, rfl⟩)
                    · have b3 : x < 57344 := by omega
                      have b4 : 55296 ≤ x := by omega
                      go_wp2
                      all_goals (go_ret; exact ⟨rfl, rfl⟩)
                · rw [if_neg hbad] at HW
                  subst HW
                  have b1 : ¬ x < 65536 := by omega
                  have b2 : ¬ 1114111 < x := by omega
                  by_cases b4 : 55296 ≤ x
                  · have b3 : ¬ x < 57344 := by omega
                    clear hbad
                    go_wp2
                    all_goals (go_ret; exact ⟨rfl, rfl⟩)
                  · clear hbad
                    go_wp2
                    all_goals (go_ret; exact ⟨rfl, rfl⟩)
        · have hw : wideL l = 0 := wide_bad HN.out (.inr (by rw [HC.out]; omega))
          rw [hw]
          clear hw
          have t1 : 224 ≤ c.toNat := by omega
          have t2 : 240 ≤ c.toNat := by omega
          have t3 : ¬ c.toNat < 224 := by omega
          have t4 : ¬ c.toNat < 240 := by omega
          go_enter Tryz.func114, Tryz.ntmps114
          go_wp2
          all_goals (go_ret; exact ⟨rfl, rfl⟩)
      · have hw : wideL l = 0 := wide_bad HN.out (.inl (by rw [HC.out]; omega))
        rw [hw]
        clear hw
        have t1 : ¬ 224 ≤ c.toNat := by omega
        have t2 : ¬ 240 ≤ c.toNat := by omega
        go_enter Tryz.func114, Tryz.ntmps114
        go_wp2
        all_goals (go_ret; exact ⟨rfl, rfl⟩)
end Go.Proofs.YtbcajmkmadgbhaaGreatDoor
