/- The document's Right and Escape. -/
import Derived.Test.YtnpagnghnohmdaaDoorKeyL
import Derived.Laws.Concat
set_option linter.unusedSimpArgs false
set_option linter.unusedVariables false
namespace Go.Proofs.YtnpagnghnohmdaaDoor
open Go.RowKit
set_option maxHeartbeats 4000000 in
set_option maxRecDepth 100000 in
theorem rseries_any (m f : List UInt8) (A : Option Addr) (n cap : Nat) (tk tv : Nat → List UInt8) (w : World) (hr : SerIn w m f A n tk tv) :
    Calls Tryd.prog 25 #[.agg #[strV m, .slice A n cap, strV f]] w fun e w' => e = .returned (badV (seriesC m f n tk tv)) ∧ Below w.heap.size w w' := by
  have HR : Bx _ := ⟨hr⟩
  have HI0 := (SB.alloc w m f A n cap 24).step (below1 _ (.cells #[.int .i64 0, .int .i64 0, .int .i64 0, .bool false, .bool false] 35))
  have HB0 := BB.alloc 35 (Below.refl (w.alloc (.cells #[strV m, .slice A n cap, strV f] 24)).heap.size (w.alloc (.cells #[strV m, .slice A n cap, strV f] 24)))
  rw [show (w.alloc (.cells #[strV m, .slice A n cap, strV f] 24)).heap.size = w.heap.size + 1 by simp] at HB0
  have HI : Bx _ := ⟨HI0⟩
  have HB : Bx _ := ⟨HB0⟩
  have HX : Bx (Below w.heap.size w (w.alloc (.cells #[strV m, .slice A n cap, strV f] 24))) := ⟨below1 _ _⟩
  clear HI0 HB0
  have k1 := fun w => rname_any m w hr.m
  have k2 := fun w h1 => rtags_any A n cap tk tv w h1 hr.n
  have k3 := fun w => isWord_any f w hr.f
  obtain ⟨N, hN⟩ : ∃ N, nameC m = N := ⟨_, rfl⟩
  obtain ⟨T, hT⟩ : ∃ T, tagsC n tk tv = T := ⟨_, rfl⟩
  obtain ⟨W, hW⟩ : ∃ W, wordB f = W := ⟨_, rfl⟩
  rw [hN] at k1
  rw [hT] at k2
  rw [hW] at k3
  have HE : Bx (seriesC m f n tk tv = if N = 0 then (if T = 0 then (if W then 0 else 50) else T) else N) := ⟨by unfold seriesC; rw [hN, hT, hW]⟩
  have hn : N = 0 ∨ N = 50 := by rw [← hN]; unfold nameC; split <;> simp
  have ht : T = 0 ∨ T = 52 := by rw [← hT]; unfold tagsC; split <;> simp
  clear hN hT hW hr
  go_enter Tryd.func25, Tryd.ntmps25
  go_wp2_with fail
  generalize ((w.alloc (.cells #[strV m, .slice A n cap, strV f] 24)).alloc (.cells #[.int .i64 0, .int .i64 0, .int .i64 0, .bool false, .bool false] 35)) = w0 at *
  generalize (w.alloc (.cells #[strV m, .slice A n cap, strV f] 24)) = wx at *
  generalize hS : w.heap.size = S at *
  have HS : Bx (w.heap.size = S) := ⟨hS⟩
  clear hS
  refine (k1 _).mono ?_
  rintro e w1 ⟨rfl, h1⟩
  have HJ : Bx _ := ⟨(HI.out.step h1).step (below1 _ (.cells #[.int .i64 N, .int .i64 0, .int .i64 0, .bool false, .bool false] 35))⟩
  have HC : Bx _ := ⟨(HB.out.step h1).step (below1 _ (.cells #[.int .i64 N, .int .i64 0, .int .i64 0, .bool false, .bool false] 35))⟩
  clear h1 HI HB k1
  rcases hn with rfl | rfl
  · have c1 := HJ.out.c1
    go_wp2_with fail
    generalize (w1.alloc (.cells #[.int .i64 0, .int .i64 0, .int .i64 0, .bool false, .bool false] 35)) = w1' at *
    have hb1 : Below w.heap.size w w1' := by rw [HS.out]; exact HJ.out.below
    refine (k2 _ (HR.out.row.below hb1)).mono ?_
    rintro e w2 ⟨rfl, h2⟩
    have HK : Bx _ := ⟨(HJ.out.step h2).step (below1 _ (.cells #[.int .i64 T, .int .i64 0, .int .i64 0, .bool false, .bool false] 35))⟩
    have HD : Bx _ := ⟨(HC.out.step h2).step (below1 _ (.cells #[.int .i64 T, .int .i64 0, .int .i64 0, .bool false, .bool false] 35))⟩
    clear h2 HJ HC k2 c1 hb1
    rcases ht with rfl | rfl
    · have c2 := HK.out.c2
      go_wp2_with fail
      generalize (w2.alloc (.cells #[.int .i64 0, .int .i64 0, .int .i64 0, .bool false, .bool false] 35)) = w2' at *
      refine (k3 _).mono ?_
      rintro e w3 ⟨rfl, rfl⟩
      clear k3 c2
      have c0 := HD.out.c0
      have c1 := HD.out.c1
      have c2 := HD.out.c2
      have c3 := HD.out.c3
      have c4 := HD.out.c4
      have cf := HD.out.f
      have olt := HD.out.lt
      cases W
      · have HC : Bx (seriesC m f n tk tv = 50) := ⟨by rw [HE.out]; rfl⟩
        go_wp2_with (go_at_call 51; refine (badnew_x _ _).mono ?_; rintro e w' ⟨rfl, rfl⟩)
        obtain ⟨w', hw', z0, z1, z2, z3, z4, zb⟩ := HD.out.fin2 50 #[.int .i64 50, .int .i64 0, .int .i64 0, .bool false, .bool false] 35
        subst hw'
        exact bodyPost_ret (results_bad1 rfl _ _ (S + 1) 50 rfl z0 z1 z2 z3 z4) rfl ⟨by rw [HC.out], by rw [HS.out]; exact HX.out.trans (zb.mono (by omega))⟩
      · have HC : Bx (seriesC m f n tk tv = 0) := ⟨by rw [HE.out]; rfl⟩
        go_wp2
        obtain ⟨z0, z1, z2, z3, z4, zb⟩ := HD.out.fin 0
        exact bodyPost_ret (results_bad1 rfl _ _ (S + 1) 0 rfl z0 z1 z2 z3 z4) rfl ⟨by rw [HC.out], by rw [HS.out]; exact HX.out.trans (zb.mono (by omega))⟩
    · have HC : Bx (seriesC m f n tk tv = 52) := ⟨by rw [HE.out]; rfl⟩
      have c0 := HD.out.c0
      have c1 := HD.out.c1
      have c2 := HD.out.c2
      have c3 := HD.out.c3
      have c4 := HD.out.c4
      have cf := HD.out.f
      have olt := HD.out.lt
      go_wp2
      obtain ⟨z0, z1, z2, z3, z4, zb⟩ := HD.out.fin 52
      exact bodyPost_ret (results_bad1 rfl _ _ (S + 1) 52 rfl z0 z1 z2 z3 z4) rfl ⟨by rw [HC.out], by rw [HS.out]; exact HX.out.trans (zb.mono (by omega))⟩
  · have HC' : Bx (seriesC m f n tk tv = 50) := ⟨by rw [HE.out]; rfl⟩
    have c0 := HC.out.c0
    have c1 := HC.out.c1
    have c2 := HC.out.c2
    have c3 := HC.out.c3
    have c4 := HC.out.c4
    have cf := HC.out.f
    have olt := HC.out.lt
    go_wp2
    obtain ⟨z0, z1, z2, z3, z4, zb⟩ := HC.out.fin 50
    exact bodyPost_ret (results_bad1 rfl _ _ (S + 1) 50 rfl z0 z1 z2 z3 z4) rfl ⟨by rw [HC'.out], by rw [HS.out]; exact HX.out.trans (zb.mono (by omega))⟩
set_option maxHeartbeats 4000000 in
set_option maxRecDepth 100000 in
theorem rescape_any (l : List UInt8) (w : World) (hl : l.length ≤ 2097152) :
    Calls Tryd.prog 30 #[strV l] w fun e w' => e = .returned (strV (escL l)) ∧ w = w' := by
  go_enter Tryd.func30, Tryd.ntmps30
  go_wp2_with fail
  go_loopw [3, 4] (fun o i wr => ∃ k : Nat, k ≤ l.length ∧ i = .int .i64 k ∧ o = strV (escL (l.take k)) ∧ wr = w) (fun _ i _ => l.length - (intOf i).toNat)
  case atStart => exact ⟨0, by omega, rfl, rfl, rfl⟩
  case round =>
    obtain ⟨k, hk, rfl, rfl, rfl⟩ := hrel
    by_cases hlt : k < l.length
    · obtain ⟨a, ha⟩ : ∃ a, l.getD k 0 = a := ⟨_, rfl⟩
      have hak : ((⟨l.toArray⟩ : ByteArray)[k]'(by simpa [ByteArray.size] using hlt)) = a := by rw [getD_toArray' hlt, ha]
      have hex : (⟨l.toArray⟩ : ByteArray).extract k (k + 1) = ⟨[a].toArray⟩ := by
        apply ByteArray.ext
        simp [ByteArray.data_extract]
        rw [← ha, List.getD_eq_getElem?_getD, List.getElem?_eq_getElem hlt, List.drop_eq_getElem_cons hlt]
        rfl
      have hlen := escL_len (l.take k)
      have hlk : (l.take k).length ≤ k := List.length_take_le _ _
      have HT : Bx (escL (l.take (k + 1)) = escL (l.take k) ++ (if specB a then [92, a] else [a])) := ⟨by rw [take_one hlt, escL_snoc, ha]⟩
      clear ha
      generalize escL (l.take k) = E at *
      have ks := fun w => rspecial_any a w
      generalize specB a = sp at *
      have a1 := fun w => run_string_add_lists (P := Tryd.prog) w E [92] (by omega) (by simp)
      have a2 := fun w => run_string_add_lists (P := Tryd.prog) w E [a] (by omega) (by simp)
      have a3 := fun w => run_string_add_lists (P := Tryd.prog) w (E ++ [92]) [a] (by simp; omega) (by simp)
      obtain ⟨X1, h1⟩ : ∃ X, E ++ [92] = X := ⟨_, rfl⟩
      obtain ⟨X2, h2⟩ : ∃ X, E ++ [a] = X := ⟨_, rfl⟩
      obtain ⟨X3, h3⟩ : ∃ X, E ++ [92] ++ [a] = X := ⟨_, rfl⟩
      rw [h3, h1] at a3
      rw [h1] at a1
      rw [h2] at a2
      have HX2 : Bx (E ++ [a] = X2) := ⟨h2⟩
      have HX3 : Bx (E ++ [92] ++ [a] = X3) := ⟨h3⟩
      clear h1 h2 h3 hlen hlk
      cases sp
      · go_wp2_with (go_at_call 59; refine (ks _).mono ?_; rintro e w2 ⟨rfl, rfl⟩)
        exact ⟨⟨k + 1, by omega, by rw [Int.natCast_succ], by rw [HT.out, ← HX2.out]; rfl, trivial⟩, by simp only [intOf]; omega⟩
      · go_wp2_with (go_at_call 59; refine (ks _).mono ?_; rintro e w2 ⟨rfl, rfl⟩)
        exact ⟨⟨k + 1, by omega, by rw [Int.natCast_succ], by rw [HT.out, ← HX3.out]; simp, trivial⟩, by simp only [intOf]; omega⟩
    · obtain rfl : k = l.length := by omega
      rw [List.take_length]
      go_wp2
      go_ret
      exact ⟨rfl, rfl⟩
end Go.Proofs.YtnpagnghnohmdaaDoor
