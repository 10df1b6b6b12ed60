/- Value, of both sides; rows of texts: SameTexts. Group, of both sides. -/
import Derived.Test.YtbaopcpmmdmomaaGreatDoorKeyZ
import Derived.Test.YtbaopcpmmdmomaaGreatDoorKeyPb
set_option linter.unusedSimpArgs false
set_option linter.unusedVariables false
namespace Go.Proofs.YtbaopcpmmdmomaaGreatDoor
section
open Go.RowKit
/-- a tag's value -/
def valFrom (tk tv : Nat → List UInt8) (name : List UInt8) : Nat → Nat → List UInt8
  | 0, _ => []
  | c + 1, i => if tk i == name then tv i else valFrom tk tv name c (i + 1)
def valF (tk tv : Nat → List UInt8) (n : Nat) (name : List UInt8) : List UInt8 := valFrom tk tv name n 0
set_option maxHeartbeats 2000000 in
set_option maxRecDepth 100000 in
theorem kvalue_any (A : Option Addr) (n cap : Nat) (tk tv : Nat → List UInt8) (name : List UInt8) (w : World) (hr : TagRow w A n tk tv) (hn : n ≤ 9223372036854775807) :
    Calls Tryz.prog 18 #[.slice A n cap, strV name] w fun e w' => e = .returned (strV (valF tk tv n name)) ∧ Below w.heap.size w w' := by
  have HR : Bx _ := ⟨hr⟩
  obtain ⟨V, hV⟩ : ∃ V, valF tk tv n name = V := ⟨_, rfl⟩
  have HV : Bx (valFrom tk tv name n 0 = V) := ⟨hV⟩
  rw [hV]
  clear hr hV
  go_enter Tryz.func18, Tryz.ntmps18
  go_wp2_with fail
  go_loopw [9] (fun i wr => ∃ k : Nat, k ≤ n ∧ i = .int .i64 k ∧ Bx (valFrom tk tv name (n - k) k = V) ∧ Bx (Below w.heap.size w wr)) (fun i _ => n - (intOf i).toNat)
  case atStart => exact ⟨0, by omega, rfl, HV, ⟨Below.refl _ _⟩⟩
  case round =>
    obtain ⟨k, hk, rfl, HK, HI⟩ := hrel
    clear HV
    by_cases hlt : k < n
    · obtain ⟨b, off, rfl, hrow⟩ := (HR.out.below HI.out).row (by omega)
      obtain ⟨r0, r1⟩ := hrow k hlt
      have hst : valFrom tk tv name (n - k) k = if tk k == name then tv k else valFrom tk tv name (n - (k + 1)) (k + 1) := by
        rw [show n - k = (n - (k + 1)) + 1 by omega]; rfl
      rw [HK.out] at hst
      obtain ⟨q, hq⟩ : ∃ q, (tk k == name) = q := ⟨_, rfl⟩
      rw [hq] at hst
      have HQ : Bx _ := ⟨hst⟩
      have HJ : Bx (Below w.heap.size w (wr.alloc (.cells #[strV (tk k), strV (tv k)] 70))) := ⟨HI.out.trans ((below1 _ _).mono HI.out.size)⟩
      clear hst hrow HI HK
      cases q
      · have HK : Bx (valFrom tk tv name (n - (k + 1)) (k + 1) = V) := ⟨HQ.out.symm⟩
        clear HQ
        go_wp2_with fail
        exact ⟨⟨k + 1, by omega, by rw [Int.natCast_succ], HK, HJ⟩, by simp only [intOf]; omega⟩
      · have HK : Bx (V = tv k) := ⟨HQ.out⟩
        clear HQ
        go_wp2_with fail
        go_ret
        exact ⟨by rw [HK.out]; rfl, HJ.out⟩
    · obtain rfl : k = n := by omega
      have HK2 : Bx (V = []) := ⟨by rw [← HK.out, Nat.sub_self]; rfl⟩
      go_wp2_with fail
      go_ret
      exact ⟨by rw [HK2.out]; rfl, HI.out⟩
/-- a row of texts in memory -/
structure TxtRow (w : World) (A : Option Addr) (n : Nat) (t : Nat → List UInt8) : Prop where
  row : 0 < n → ∃ b off, A = some ⟨b, off, none⟩ ∧ ∀ i, i < n → w.cell? ⟨b, off + i, none⟩ = some (strV (t i))
theorem TxtRow.below {w w' : World} {A : Option Addr} {n : Nat} {t : Nat → List UInt8} (h : TxtRow w A n t) (hb : Below w.heap.size w w') : TxtRow w' A n t where
  row := fun hn => by
    obtain ⟨b, off, e, hr⟩ := h.row hn
    exact ⟨b, off, e, fun i hi => by rw [hb.cell (cell_lt (hr i hi))]; exact hr i hi⟩
end
section
open Go.RowKit
/-- the cells of a row of texts -/
def txtC (t : Nat → List UInt8) (k : Nat) : List Value := (List.range k).map fun i => strV (t i)
theorem txtC_succ (t : Nat → List UInt8) (k : Nat) : txtC t (k + 1) = txtC t k ++ [strV (t k)] := by simp [txtC, List.range_succ]
theorem txtC_get (t : Nat → List UInt8) {k i : Nat} (h : i < k) : (txtC t k)[i]? = some (strV (t i)) := by simp [txtC, h]
theorem news1 (w : World) (a : List UInt8) (T : Nat) : ∀ (j : Nat) (u : Value), [strV a][j]? = some u → (w.alloc (.cells #[strV a] T)).cell? ((⟨w.heap.size, 0, none⟩ : Addr).add j) = some u := fun j u hj => by
  match j, hj with
  | 0, hj =>
    have e : (⟨w.heap.size, 0, none⟩ : Addr).add 0 = ⟨w.heap.size, 0, none⟩ := by simp [Addr.add]
    rw [e, World.cell?_alloc_at _ _ _ _ rfl]
    simpa using hj
theorem one1 (a : List UInt8) : ∀ u ∈ [strV a], u.oneCell' = true := fun u hu => by
  simp only [List.mem_cons, List.not_mem_nil, or_false] at hu
  subst hu; rfl
theorem txt_of {w : World} {base : Nat} {v : Value} {t : Nat → List UInt8} {k : Nat} (h : w.ownsRow base 9 1 v k (txtC t k)) : ∃ A' cap', v = .slice A' k cap' ∧ TxtRow w A' k t := by
  obtain ⟨_, ⟨rfl, rfl⟩ | ⟨M, cap, cur, rfl, hbM, hg, hnc, hcm, hcs, htk⟩⟩ := id h
  · exact ⟨none, 0, rfl, ⟨fun h => absurd h (by omega)⟩⟩
  · refine ⟨_, cap, rfl, ⟨fun _ => ⟨M, 0, rfl, fun i hi => ?_⟩⟩⟩
    rw [Nat.zero_add, h.cellAt i (by omega)]
    exact txtC_get t hi
set_option maxHeartbeats 4000000 in
set_option maxRecDepth 100000 in
theorem kgroup_any (A A2 : Option Addr) (n cap N c2 : Nat) (tk tv nm : Nat → List UInt8) (w : World) (hr : TagRow w A n tk tv) (hm : TxtRow w A2 N nm) (hn : n ≤ 9223372036854775807) (hN : N ≤ 1048576) :
    Calls Tryz.prog 9 #[.slice A n cap, .slice A2 N c2] w fun e w' => ∃ A' cap', e = .returned (.slice A' N cap') ∧ TxtRow w' A' N (fun i => valF tk tv n (nm i)) ∧ Below w.heap.size w w' := by
  obtain ⟨i0, hi, hiz, hi1, hi2⟩ := info_parts (show (Tryz.prog.info? 9).map (fun i => (i.zero, i.size, i.bytes)) = some (some (.string ⟨#[]⟩), 1, 16) by kernel_rfl)
  have HI0 : Bx (Tryz.prog.info? 9 = some i0 ∧ i0.zero = some (.string ⟨#[]⟩) ∧ i0.size = 1 ∧ i0.bytes = 16) := ⟨hi, hiz, hi1, hi2⟩
  have HR : Bx _ := ⟨And.intro hr hm⟩
  obtain ⟨t, ht⟩ : ∃ t, (fun i => valF tk tv n (nm i)) = t := ⟨_, rfl⟩
  have HT : Bx (∀ i, valF tk tv n (nm i) = t i) := ⟨fun i => by rw [← ht]⟩
  rw [ht]
  clear hi hiz hi1 hi2 hr hm ht
  go_enter Tryz.func9, Tryz.ntmps9
  go_wp2_with fail
  go_loopw [5, 10] (fun o i wr => ∃ (k : Nat), k ≤ N ∧ i = .int .i64 k ∧ Bx (Below w.heap.size w wr ∧ wr.ownsRow w.heap.size 9 1 o k (txtC t k))) (fun _ i _ => N - (intOf i).toNat)
  case atStart => exact ⟨0, by omega, rfl, ⟨Below.refl _ _, World.ownsRow_nil _ _ _ _⟩⟩
  case round =>
    obtain ⟨k, hk, rfl, HI⟩ := hrel
    by_cases hlt : k < N
    · obtain ⟨b, off, rfl, hrow⟩ := (HR.out.2.below HI.out.1).row (by omega)
      have r0 := hrow k hlt
      have kv := kvalue_any A n cap tk tv (nm k) wr (HR.out.1.below HI.out.1) hn
      rw [HT.out] at kv
      clear hrow
      go_wp2_with fail
      refine kv.mono ?_
      rintro e w1 ⟨rfl, h1⟩
      have HJ : Bx (Below w.heap.size w w1 ∧ w1.ownsRow w.heap.size 9 1 u5 k (txtC t k)) := ⟨HI.out.1.trans (h1.mono HI.out.1.size), HI.out.2.kept (grown_below h1 none) (by cases hv : Value.ownBlock u5 <;> simp)⟩
      clear kv h1 r0 HI
      go_wp2_with (at_builtin; refine wpList_append_own _ rfl _ _ 25 rfl w.heap.size 9 i0 (.string ⟨#[]⟩) 1 16 Tryz.underlying25 HI0.out.1 HI0.out.2.1 HI0.out.2.2.1 HI0.out.2.2.2 rfl (by decide) u5 k (txtC t k) rfl (HJ.out.2.alloc _) ⟨w1.heap.size, 0, none⟩ 1 1 [strV (t k)] rfl rfl (news1 w1 _ _) (one1 _) (by unfold maxLen; omega) (by omega) (by have := HJ.out.1.size; simp only [heap_push, Array.size_push]; omega) ?_; intro v' w2 hown hg _; have HK : Bx (Below w.heap.size w w2 ∧ w2.ownsRow w.heap.size 9 1 v' (k + 1) (txtC t (k + 1))) := ⟨below_own (HJ.out.1.trans ((below1 _ _).mono HJ.out.1.size)) hg (fun g e => (HJ.out.2.lt g e).1) (by have := HJ.out.1.size; simp only [heap_push, Array.size_push]; omega), by rw [txtC_succ]; exact hown⟩; clear hown hg)
      exact ⟨⟨k + 1, by omega, by rw [Int.natCast_succ], HK⟩, by simp only [intOf]; omega⟩
    · obtain rfl : k = N := by omega
      have HK : Bx (∃ A' cap', u5 = .slice A' k cap' ∧ TxtRow wr A' k t) := ⟨txt_of HI.out.2⟩
      obtain ⟨A', cap', rfl, htr⟩ := HK.out
      have HTR : Bx _ := ⟨htr⟩
      clear HK htr
      go_wp2_with fail
      go_ret
      exact ⟨A', cap', rfl, HTR.out, HI.out.1⟩
end
end Go.Proofs.YtbaopcpmmdmomaaGreatDoor
