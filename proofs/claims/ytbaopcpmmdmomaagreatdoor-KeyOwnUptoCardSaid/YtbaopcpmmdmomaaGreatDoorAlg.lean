/- weirmem.Book at rows of tags: TakeTags, aloneTags. -/
import Derived.Test.YtbaopcpmmdmomaaGreatDoorGra
import Derived.Test.YtbaopcpmmdmomaaGreatDoorMrk
import Derived.Deep.AppendLies
import Derived.Deep.Cut
set_option linter.unusedSimpArgs false
set_option linter.unusedVariables false
namespace Go.Proofs.YtbaopcpmmdmomaaGreatDoor
open Go.RowKit
open Bk
abbrev encG : List UInt8 × List UInt8 → List Value := fun p => [strV p.1, strV p.2]
def mkG (i : Nat) : List UInt8 × List UInt8 := (markT i, [])
theorem encG_len : ∀ x, (encG x).length = 2 := fun x => rfl
theorem encG_one (z : List UInt8 × List UInt8) : ∀ u ∈ encG z, u.oneCell' = true := fun u hu => by
  simp only [List.mem_cons, List.not_mem_nil, or_false] at hu
  rcases hu with rfl | rfl <;> rfl
theorem newsG (w : World) (mt : List UInt8) (T : Nat) : ∀ (j : Nat) (u : Value), (encG (mt, []))[j]? = some u → (w.alloc (.cells #[strV mt, .string ⟨#[]⟩] T)).cell? ((⟨w.heap.size, 0, none⟩ : Addr).add j) = some u := fun j u hj => by
  match j, hj with
  | 0, hj =>
    have e : (⟨w.heap.size, 0, none⟩ : Addr).add 0 = ⟨w.heap.size, 0, none⟩ := by simp [Addr.add]
    rw [e, World.cell?_alloc_at _ _ _ _ rfl]
    simpa using hj
  | 1, hj =>
    have e : (⟨w.heap.size, 0, none⟩ : Addr).add 1 = ⟨w.heap.size, 1, none⟩ := by simp [Addr.add]
    rw [e, World.cell?_alloc_at _ _ _ _ rfl]
    simpa using hj
abbrev MkG := Mk encG 2 70 22 mkG 5
theorem infoG : ∃ i, Tryz.prog.info? 70 = some i ∧ i.zero = some (.agg #[.string ⟨#[]⟩, .string ⟨#[]⟩]) ∧ i.size = 2 ∧ i.bytes = 32 := info_parts (show (Tryz.prog.info? 70).map (fun i => (i.zero, i.size, i.bytes)) = some (some (.agg #[.string ⟨#[]⟩, .string ⟨#[]⟩]), 2, 32) by kernel_rfl)
theorem infoGs : ∃ i, Tryz.prog.info? 22 = some i ∧ i.zero = some (.slice none 0 0) ∧ i.size = 1 ∧ i.bytes = 24 := info_parts (show (Tryz.prog.info? 22).map (fun i => (i.zero, i.size, i.bytes)) = some (some (.slice none 0 0), 1, 24) by kernel_rfl)
theorem MkG.row1 {bs : Array Value} {w wr : World} {b : Nat} {v : Value} {xs : List SlE} {i c : Nat} (h : MkG bs w wr b v xs i c) (hi : i < xs.length) (hk : c < (xAt xs i).2.1) :
    ∃ g cap u0 u1, xAt xs i = (some ⟨g, 0, none⟩, (xAt xs i).2.1, cap) ∧ (xAt xs i).2.1 ≤ maxLen ∧ wr.cell? ⟨g, c * 2, none⟩ = some u0 ∧ wr.cell? ⟨g, c * 2 + 1, none⟩ = some u1 ∧ (∀ o, wr.frozen? ⟨g, o, none⟩ = false) := by
  obtain ⟨g, cap, h1, h2, h3, h4, h5⟩ := h.row encG_len (by decide) hi hk
  obtain ⟨u0, hu0⟩ := h3 0 (by decide)
  obtain ⟨u1, hu1⟩ := h3 1 (by decide)
  rw [Nat.add_zero] at hu0
  exact ⟨g, cap, u0, u1, h1, h2, hu0, hu1, h4⟩
theorem MkG.put1 {bs : Array Value} {w wr : World} {b : Nat} {v : Value} {xs : List SlE} {i c g n cap : Nat} (h : MkG bs w wr b v xs i c) (hi : i < xs.length) (hx : xAt xs i = (some ⟨g, 0, none⟩, n, cap)) (hk : c < n) : MkG bs w ((wr.setCell ⟨g, c * 2, none⟩ (strV (markT i))).setCell ⟨g, c * 2 + 1, none⟩ (strV [])) b v xs i (c + 1) := by
  have h5 := Mk.put encG_len (by decide) h hi hx hk
  exact h5
theorem RdG1 {w : World} {xa : Option Addr} {n c j q m : Nat} (h : Rd encG 2 mkG w (xa, n, c) m j) (hq : q < m) : ∃ g, xa = some ⟨g, 0, none⟩ ∧ w.cell? ⟨g, q * 2, none⟩ = some (strV (markT j)) ∧ w.cell? ⟨g, q * 2 + 1, none⟩ = some (strV []) := by
  obtain ⟨g, _, h2, h3⟩ := h (by omega)
  exact ⟨g, h2, by have := h3 q 0 _ hq rfl; rw [Nat.add_zero] at this; exact this, h3 q 1 _ hq rfl⟩
theorem box2 (w : World) (x y : Value) (T : TypeId) : (w.alloc (.cells #[x, y] T)).cell? ⟨w.heap.size, 0, none⟩ = some x ∧ (w.alloc (.cells #[x, y] T)).cell? ⟨w.heap.size, 1, none⟩ = some y := by
  constructor
  · rw [World.cell?_alloc_at _ _ _ _ rfl]; rfl
  · rw [World.cell?_alloc_at _ _ _ _ rfl]; rfl
set_option maxHeartbeats 4000000 in
set_option maxRecDepth 100000 in
theorem alone_tags (b : Nat) (bs : Array Value) (v : Value) (xs : List SlE) (w : World) (h0 : MkG bs w w b v xs 0 0) (hm : (xs.length + 1) * 24 ≤ 140737488355328) (hn20 : ∀ j, j < xs.length → ((xAt xs j).2.1 + 21) * 32 ≤ 140737488355328) :
    Calls Tryz.prog 31 #[.pointer (some ⟨b, 0, none⟩)] w fun e w' => e = .returned (.bool true) ∧ Turned (blocksOf xs) w w' := by
  obtain ⟨A, cap, hv, _⟩ := h0.book.at
  obtain ⟨m, hml⟩ : ∃ m, xs.length = m := ⟨_, rfl⟩
  rw [hml] at hv hm
  have H0 := Bx.mk h0
  have HM := Bx.mk hml
  have HV := Bx.mk hv
  have HL20 := Bx.mk hn20
  obtain ⟨i2, hi2, hiz2, hs2, hb2⟩ := infoGs
  have HI2 : Bx _ := ⟨And.intro hi2 (And.intro hiz2 (And.intro hs2 hb2))⟩
  obtain ⟨i0, hi0, hiz0, hs0, hb0⟩ := infoG
  have HI0 : Bx _ := ⟨And.intro hi0 (And.intro hiz0 (And.intro hs0 hb0))⟩
  clear h0 hml hv hn20 hi2 hiz2 hs2 hb2 hi0 hiz0 hs0 hb0
  go_enter Tryz.func31, Tryz.ntmps31
  go_wp2_with fail
  go_loopw [3, 4] (fun i _ wr => ∃ n : Nat, i = .int .i64 n ∧ n ≤ m ∧ Bx (MkG bs w wr b v xs n 0)) (fun i _ _ => m - (intOf i).toNat)
  case atStart => exact ⟨0, rfl, by omega, H0⟩
  case round =>
    obtain ⟨n, rfl, hn, HI⟩ := hrel
    have c12 := HI.out.book.cell
    rw [HV.out] at c12
    by_cases hlt : n < m
    · go_wp2_with fail
      go_loopw [4] (fun k wr => ∃ q : Nat, k = .int .i64 q ∧ q ≤ (xAt xs n).2.1 ∧ Bx (MkG bs w wr b v xs n q)) (fun k _ => (xAt xs n).2.1 - (intOf k).toNat)
      case atStart => exact ⟨0, rfl, by omega, HI⟩
      case round =>
        obtain ⟨q, rfl, hq, HJ⟩ := hrel
        clear HI c12
        rename World => w0
        have d12 := HJ.out.book.cell
        rw [HV.out] at d12
        obtain ⟨A', cap', ev, hc⟩ := HJ.out.book.at
        rw [HV.out, HM.out] at ev
        injection ev with eA _ eC
        obtain ⟨vb, hvb, hcell⟩ := hc (by rw [HM.out]; omega)
        have hvA : A = some ⟨vb, 0, none⟩ := eA.trans hvb
        subst hvA
        have dn := hcell n (by rw [HM.out]; exact hlt)
        obtain ⟨x, hx⟩ : ∃ x, xAt xs n = x := ⟨_, rfl⟩
        obtain ⟨xa, xn, xc⟩ := x
        rw [hx] at dn hq ⊢
        simp only at hq ⊢
        unfold slV at dn
        simp only at dn
        have HX := Bx.mk hx
        clear hx hcell hc hvb eA eC A' cap'
        by_cases hqn : q < xn
        · obtain ⟨g, cx, u0, u1, ex, hmx, g0, g1, f0⟩ := HJ.out.row1 (by rw [HM.out]; exact hlt) (by rw [HX.out]; exact hqn)
          rw [HX.out] at ex hmx
          unfold maxLen at hmx
          injection ex with ex1 ex2
          injection ex2 with _ ex2
          subst ex1 ex2
          have km : ∀ x, Calls Tryz.prog 69 #[.int .i64 n] x fun e w' => e = .returned (strV (markT n)) ∧ Below x.heap.size x w' := fun x => mark_any n x (by omega)
          obtain ⟨mt, hmt⟩ : ∃ mt, markT n = mt := ⟨_, rfl⟩
          have HMT := Bx.mk hmt
          rw [hmt] at km
          clear hmt
          go_wp2_with fail
          go_region_with (first | (go_at_call 69; refine (km _).mono ?_; rintro e w1 ⟨rfl, hb1⟩; have k12 : w1.cell? ⟨b, 5, none⟩ = some (.slice (some ⟨vb, 0, none⟩) m cap) := (hb1.cell (cell_lt d12)).trans d12; have kn : w1.cell? ⟨vb, n, none⟩ = some (.slice (some ⟨g, 0, none⟩) xn xc) := (hb1.cell (cell_lt dn)).trans dn; have k0 : w1.cell? ⟨g, q * 2, none⟩ = some u0 := (hb1.cell (cell_lt g0)).trans g0; have q0 : w1.frozen? ⟨g, q * 2, none⟩ = false := (hb1.frozen (cell_lt g0)).trans (f0 _); have k1 : w1.cell? ⟨g, q * 2 + 1, none⟩ = some u1 := (hb1.cell (cell_lt g1)).trans g1; have q1 : w1.frozen? ⟨g, q * 2 + 1, none⟩ = false := (hb1.frozen (cell_lt g1)).trans (f0 _); have HN := Bx.mk (MkG.put1 (c := q) (HJ.out.step (show Below w0.heap.size w0 w1 from (Below.refl _ _).drew.trans hb1)) (by rw [HM.out]; exact hlt) HX.out hqn); rw [HMT.out] at HN))
          all_goals
            go_wp2
            exact ⟨⟨q + 1, by rw [Int.natCast_succ], by omega, HN⟩, by simp only [intOf]; omega⟩
        · obtain rfl : q = xn := by omega
          have HN := Bx.mk (Mk.next (i := n) (by rw [HX.out]; exact HJ.out))
          go_wp2
          exact ⟨⟨n + 1, by rw [Int.natCast_succ], by omega, HN⟩, by simp only [intOf]; omega⟩
    · obtain rfl : n = m := by omega
      have HG := Bx.mk (Gr.start encG_len (by rw [HM.out]; exact HI.out))
      clear HI hlt hn
      go_wp2_with fail
      clear c12
      go_loopw [5, 6, 7, 8] (fun u i _ _ wr => ∃ (k : Nat) (zs : List SlE), i = .int .i64 k ∧ k ≤ n ∧ Bx (zs.length = k ∧ Gr encG 2 70 22 mkG 5 bs w wr b v xs k u zs)) (fun _ i _ _ _ => n - (intOf i).toNat)
      case atStart => exact ⟨0, [], rfl, by omega, ⟨rfl, HG.out⟩⟩
      case round =>
        obtain ⟨k, zs, rfl, hk, HI⟩ := hrel
        clear HG
        rename World => w0
        have d12 := HI.out.2.book.cell
        rw [HV.out] at d12
        by_cases hlt : k < n
        · obtain ⟨A', cap', ev, hc⟩ := HI.out.2.book.at
          rw [HV.out, HM.out] at ev
          injection ev with eA _ eC
          obtain ⟨vb, hvb, hcell⟩ := hc (by rw [HM.out]; omega)
          have hvA : A = some ⟨vb, 0, none⟩ := eA.trans hvb
          subst hvA
          have dn := hcell k (by rw [HM.out]; exact hlt)
          have HJ0 := Bx.mk (Gi.start HI.out.2 HI.out.1 (by rw [HM.out]; exact hlt))
          have hb20 := HL20.out k (by rw [HM.out]; exact hlt)
          obtain ⟨x, hx⟩ : ∃ x, xAt xs k = x := ⟨_, rfl⟩
          have hxn : (xAt xs k).2.1 = x.2.1 := by rw [hx]
          rw [hx] at dn HJ0 hb20
          obtain ⟨xn, hxn2⟩ : ∃ xn, x.2.1 = xn := ⟨_, rfl⟩
          have HXN : Bx ((xAt xs k).2.1 = xn) := ⟨hxn.trans hxn2⟩
          rw [hxn2] at hb20
          clear hx hcell hc hvb eA eC hxn hxn2 A' cap'
          go_wp2_with fail
          go_loopw [7, 8] (fun g c wr => ∃ (q : Nat) (y : SlE), g = slV y ∧ c = .int .i64 q ∧ q ≤ 20 ∧ Bx (Gi encG 2 70 22 mkG 5 bs w wr b v xs k q _ zs y)) (fun _ c _ => 20 - (intOf c).toNat)
          case atStart => exact ⟨0, x, rfl, rfl, by omega, HJ0⟩
          case round =>
            obtain ⟨q, y, rfl, rfl, hq, HJ⟩ := hrel
            clear HJ0 HI d12 dn
            rename World => w3
            have km : ∀ x, Calls Tryz.prog 69 #[.int .i64 k] x fun e w' => e = .returned (strV (markT k)) ∧ Below x.heap.size x w' := fun x => mark_any k x (by omega)
            obtain ⟨mt, hmt⟩ : ∃ mt, markT k = mt := ⟨_, rfl⟩
            have HME : Bx (mkG k = (mt, [])) := ⟨by rw [← hmt]; rfl⟩
            rw [hmt] at km
            clear hmt
            by_cases hq20 : q < 20
            · obtain ⟨N, hN⟩ : ∃ N, xn + q = N := ⟨_, rfl⟩
              have HN : Bx (xn + q = N) := ⟨hN⟩
              have hNb : (N + 1) * 32 ≤ 140737488355328 := by omega
              clear hN
              go_wp2_with (first
                | (go_at_call 69; refine (km _).mono ?_; rintro e w4 ⟨rfl, hb4⟩)
                | (at_builtin; refine wpList_row_push (enc := encG) (k := 2) (e := 70) rfl _ _ 22 rfl Tryz.underlying22 HI0.out.1 HI0.out.2.1 HI0.out.2.2.1 HI0.out.2.2.2 rfl encG_len rfl (by have := ((HJ.out.step hb4).step (below1 w4 (.cells #[strV mt, .string ⟨#[]⟩] 70))).cur; rw [HXN.out, HN.out] at this; exact this) N (by simp) ⟨w4.heap.size, 0, none⟩ 1 (mt, []) rfl (newsG w4 mt _) (encG_one _) (by unfold maxLen; omega) hNb ?_; intro g cp w5 hc0 hrow hd; have HK := Bx.mk (((HJ.out.step hb4).step (below1 w4 (.cells #[strV mt, .string ⟨#[]⟩] 70))).app encG_len (by decide) (by rw [HXN.out, HN.out]) hc0 (by rw [HME.out] at hrow ⊢; exact hrow) hd); clear hc0 hrow hd))
              exact ⟨⟨q + 1, (some ⟨g, 0, none⟩, N + 1, cp), rfl, by rw [Int.natCast_succ], by omega, HK⟩, by simp only [intOf]; omega⟩
            · obtain rfl : q = 20 := by omega
              clear km
              have HJ3 := HJ
              clear HJ
              obtain ⟨ya, yn, yc⟩ := y
              unfold slV
              simp only
              go_wp2_with (at_builtin; refine wpList_append_lies _ rfl _ _ 32 rfl w.heap.size 22 i2 (.slice none 0 0) 1 24 Tryz.underlying32 HI2.out.1 HI2.out.2.1 HI2.out.2.2.1 HI2.out.2.2.2 rfl (by decide) _ k (slC zs) rfl (by have := (HJ3.out.step (below1 w3 (.cells #[.slice ya yn yc] 22))).g.own; rw [HJ3.out.zl] at this; exact this) ⟨w3.heap.size, 0, none⟩ 1 1 [slV (ya, yn, yc)] rfl rfl (slV_one w3 (ya, yn, yc) _) (slV_one1 (ya, yn, yc)) (by decide) (by unfold maxLen; omega) (by omega) (by have := HJ3.out.g.t.size; simp only [heap_push, Array.size_push]; omega) _ rfl ?_; intro g cap2 w4 hown hg hat hlt4; have HK := Bx.mk ((HJ3.out.step (below1 w3 (.cells #[.slice ya yn yc] 22))).fin encG_len (by decide) hown hg (by rcases hat with e | e; (exact Or.inl e); (exact Or.inr (Nat.le_of_eq e.symm)))); have HZ : Bx ((zs ++ [(ya, yn, yc)]).length = k + 1) := ⟨by simp [HJ3.out.zl]⟩; clear hown hg hat hlt4)
              exact ⟨⟨k + 1, zs ++ [(ya, yn, yc)], by rw [Int.natCast_succ], by omega, ⟨HZ.out, HK.out⟩⟩, by simp only [intOf]; omega⟩
        · obtain rfl : k = n := by omega
          obtain ⟨A2, c2, hu, hc2⟩ := Bk.own_at HI.out.2.own HI.out.1
          subst hu
          have HG := Bx.mk (And.intro HI.out hc2)
          clear hc2 hlt hk HI
          go_wp2_with fail
          clear d12
          go_loopw [9, 10, 12] (fun i _ _ wr => ∃ j : Nat, i = .int .i64 j ∧ j ≤ k ∧ Bx (Below w0.heap.size w0 wr)) (fun i _ _ _ => k - (intOf i).toNat)
          case atStart => exact ⟨0, rfl, by omega, ⟨Below.refl _ _⟩⟩
          case round =>
            obtain ⟨j, rfl, hj, HB⟩ := hrel
            rename World => w3
            by_cases hlt : j < k
            · have km : ∀ x, Calls Tryz.prog 69 #[.int .i64 j] x fun e w' => e = .returned (strV (markT j)) ∧ Below x.heap.size x w' := fun x => mark_any j x (by omega)
              obtain ⟨mt, hmt⟩ : ∃ mt, markT j = mt := ⟨_, rfl⟩
              have HMT := Bx.mk hmt
              rw [hmt] at km
              clear hmt
              obtain ⟨vb2, rfl, hcell2⟩ := HG.out.2 (by omega)
              have en0 := hcell2 j hlt
              obtain ⟨A', cap', ev, hc⟩ := HG.out.1.2.book.at
              rw [HV.out, HM.out] at ev
              injection ev with eA _ eC
              obtain ⟨vb, hvb, hcell⟩ := hc (by rw [HM.out]; omega)
              have hvA : A = some ⟨vb, 0, none⟩ := eA.trans hvb
              subst hvA
              have dn0 := hcell j (by rw [HM.out]; exact hlt)
              have d120 := HG.out.1.2.book.cell
              rw [HV.out] at d120
              have hz := HG.out.1.2.zrd j (by rw [HG.out.1.1]; exact hlt)
              have hr := HG.out.1.2.rd j (by rw [HM.out]; exact hlt)
              have hb20 := HL20.out j (by rw [HM.out]; exact hlt)
              obtain ⟨x, hx⟩ : ∃ x, xAt xs j = x := ⟨_, rfl⟩
              obtain ⟨z, hzz⟩ : ∃ z, xAt zs j = z := ⟨_, rfl⟩
              rw [hx] at dn0 hz hr hb20
              rw [hzz] at en0 hz
              obtain ⟨xa, xn, xc⟩ := x
              obtain ⟨za, zn, zc⟩ := z
              obtain ⟨hz1, hz2⟩ := hz
              simp only at hz1 hz2 hr hb20
              rw [← hz1] at hz2
              unfold slV at dn0 en0
              simp only at dn0 en0
              have HF := Bx.mk (And.intro dn0 (And.intro en0 (And.intro d120 (And.intro hz2 hr))))
              have hzn : zn * 32 ≤ 140737488355328 := by omega
              have hxn : xn * 32 ≤ 140737488355328 := by omega
              clear dn0 en0 d120 hz2 hr hx hzz hcell hc hvb eA eC A' cap' hcell2 hb20 hz1
              go_wp2_with fail
              go_loopw [10] (fun p wr => ∃ q : Nat, p = .int .i64 q ∧ q ≤ zn ∧ Bx (Below w0.heap.size w0 wr)) (fun p _ => zn - (intOf p).toNat)
              case atStart => exact ⟨0, rfl, by omega, HB⟩
              case round =>
                obtain ⟨q, rfl, hq, HB3⟩ := hrel
                clear HB
                rename World => w4
                have en : w4.cell? ⟨vb2, j, none⟩ = some (.slice za zn zc) := (HB3.out.cell (cell_lt HF.out.2.1)).trans HF.out.2.1
                by_cases hqz : q < zn
                · obtain ⟨g, rfl, g0, g1⟩ := RdG1 HF.out.2.2.2.1 hqz
                  rw [HMT.out] at g0
                  have k0 : w4.cell? ⟨g, q * 2, none⟩ = some (strV mt) := (HB3.out.cell (cell_lt g0)).trans g0
                  have k1 : w4.cell? ⟨g, q * 2 + 1, none⟩ = some (strV []) := (HB3.out.cell (cell_lt g1)).trans g1
                  clear g0 g1
                  go_upto_region 25 with (fail)
                  change Code.wp _ _ _ _ (w4.alloc (.cells #[strV mt, strV []] 70))
                  have hbx := box2 w4 (strV mt) (strV []) 70
                  have HB4 := Bx.mk (HB3.out.trans ((below1 w4 (.cells #[strV mt, strV []] 70)).mono HB3.out.size))
                  clear k0 k1 en HB3
                  generalize w4.alloc (.cells #[strV mt, strV []] 70) = w5 at *
                  obtain ⟨B, hB⟩ : ∃ B, w4.heap.size = B := ⟨_, rfl⟩
                  rw [hB] at hbx
                  simp only [hB]
                  clear hB
                  obtain ⟨b0, b1⟩ := hbx
                  go_region_with (first | (go_at_call 69; refine (km _).mono ?_; rintro e w6 ⟨rfl, hb6⟩; have k0 : w6.cell? ⟨B, 0, none⟩ = some (strV mt) := (hb6.cell (cell_lt b0)).trans b0; have k1 : w6.cell? ⟨B, 1, none⟩ = some (strV []) := (hb6.cell (cell_lt b1)).trans b1; have HN := Bx.mk (HB4.out.trans ((show Below w5.heap.size w5 w6 from (Below.refl _ _).drew.trans hb6).mono HB4.out.size)); clear hb6))
                  all_goals
                    clear HB4 b0 b1
                    go_wp2
                    exact ⟨⟨q + 1, by rw [Int.natCast_succ], by omega, HN⟩, by simp only [intOf]; omega⟩
                · obtain rfl : q = zn := by omega
                  clear hqz hq
                  go_wp2_with fail
                  clear en
                  go_loopw [12] (fun p wr => ∃ q : Nat, p = .int .i64 q ∧ q ≤ xn ∧ Bx (Below w0.heap.size w0 wr)) (fun p _ => xn - (intOf p).toNat)
                  case atStart => exact ⟨0, rfl, by omega, HB3⟩
                  case round =>
                    obtain ⟨p, rfl, hp, HB4⟩ := hrel
                    clear HB3
                    rename World => w4
                    have HB3 := HB4
                    clear HB4
                    have en : w4.cell? ⟨vb, j, none⟩ = some (.slice xa xn xc) := (HB3.out.cell (cell_lt HF.out.1)).trans HF.out.1
                    have d12 : w4.cell? ⟨b, 5, none⟩ = some (.slice (some ⟨vb, 0, none⟩) k cap) := (HB3.out.cell (cell_lt HF.out.2.2.1)).trans HF.out.2.2.1
                    by_cases hpx : p < xn
                    · obtain ⟨g, rfl, g0, g1⟩ := RdG1 HF.out.2.2.2.2 hpx
                      rw [HMT.out] at g0
                      have k0 : w4.cell? ⟨g, p * 2, none⟩ = some (strV mt) := (HB3.out.cell (cell_lt g0)).trans g0
                      have k1 : w4.cell? ⟨g, p * 2 + 1, none⟩ = some (strV []) := (HB3.out.cell (cell_lt g1)).trans g1
                      clear g0 g1
                      go_upto_region 31 with (fail)
                      change Code.wp _ _ _ _ (w4.alloc (.cells #[strV mt, strV []] 70))
                      have hbx := box2 w4 (strV mt) (strV []) 70
                      have HB4 := Bx.mk (HB3.out.trans ((below1 w4 (.cells #[strV mt, strV []] 70)).mono HB3.out.size))
                      clear k0 k1 en d12 HB3
                      generalize w4.alloc (.cells #[strV mt, strV []] 70) = w5 at *
                      obtain ⟨B, hB⟩ : ∃ B, w4.heap.size = B := ⟨_, rfl⟩
                      rw [hB] at hbx
                      simp only [hB]
                      clear hB
                      obtain ⟨b0, b1⟩ := hbx
                      go_region_with (first | (go_at_call 69; refine (km _).mono ?_; rintro e w6 ⟨rfl, hb6⟩; have k0 : w6.cell? ⟨B, 0, none⟩ = some (strV mt) := (hb6.cell (cell_lt b0)).trans b0; have k1 : w6.cell? ⟨B, 1, none⟩ = some (strV []) := (hb6.cell (cell_lt b1)).trans b1; have HN := Bx.mk (HB4.out.trans ((show Below w5.heap.size w5 w6 from (Below.refl _ _).drew.trans hb6).mono HB4.out.size)); clear hb6))
                      all_goals
                        clear HB4 b0 b1
                        go_wp2
                        exact ⟨⟨p + 1, by rw [Int.natCast_succ], by omega, HN⟩, by simp only [intOf]; omega⟩
                    · obtain rfl : p = xn := by omega
                      go_wp2
                      exact ⟨⟨j + 1, by rw [Int.natCast_succ], by omega, HB3⟩, by simp only [intOf]; omega⟩
            · obtain rfl : j = k := by omega
              have HT := Bx.mk (HG.out.1.2.t.trans (Turned.ofBelow HB.out))
              go_wp2_with fail
              go_ret
              exact ⟨rfl, HT.out⟩
set_option maxHeartbeats 4000000 in
set_option maxRecDepth 100000 in
theorem ttags_any (b : Nat) (bs : Array Value) (v : Value) (xs : List SlE) (x : SlE) (w : World) (h : BookG 5 22 w b bs v xs) (hbs : 5 < bs.size) (hk : (xs.length + 1) * 24 ≤ 140737488355328) :
    Calls Tryz.prog 5 #[.pointer (some ⟨b, 0, none⟩), slV x] w fun e w' => e = .returned (.tuple #[]) ∧ ∃ v', BookG 5 22 w' b (bs.setIfInBounds 5 v') v' (xs ++ [x]) ∧ Turned (b :: v.ownBlock.toList) w w' ∧ (v'.ownBlock = v.ownBlock ∨ ∀ g, v'.ownBlock = some g → w.heap.size ≤ g) := by
  obtain ⟨i0, hi, hiz, hi1, hi2⟩ := infoGs
  have HI0 : Bx _ := ⟨And.intro hi (And.intro hiz (And.intro hi1 hi2))⟩
  have H := Bx.mk h
  have c0 := h.cell
  have HLT : Bx (b < w.heap.size) := ⟨by obtain ⟨T, h0⟩ := h.blk; exact block_lt h0⟩
  clear hi hiz hi1 hi2 h
  obtain ⟨x0, x1, x2⟩ := x
  unfold slV
  simp only
  go_enter Tryz.func5, Tryz.ntmps5
  go_wp2_with (at_builtin; refine wpList_append_lies _ rfl _ _ 32 rfl 0 22 i0 (.slice none 0 0) 1 24 Tryz.underlying32 HI0.out.1 HI0.out.2.1 HI0.out.2.2.1 HI0.out.2.2.2 rfl (by decide) v xs.length (slC xs) rfl (H.out.row.alloc _) ⟨w.heap.size, 0, none⟩ 1 1 [slV (x0, x1, x2)] rfl rfl (slV_one w (x0, x1, x2) _) (slV_one1 (x0, x1, x2)) (by decide) (by unfold maxLen; omega) (by omega) (Nat.zero_le _) _ rfl ?_; intro g cap w2 hown hgr hat hlt2; have HK := Bx.mk (And.intro hown (And.intro hgr hat)); have HBK : Bx (w2.heap[b]? = w.heap[b]?) := ⟨by rw [hgr.block b (by simp only [heap_push, Array.size_push]; have := HLT.out; omega) (fun e => H.out.ne e.symm)]; exact Below.heap_alloc w _ b HLT.out⟩; have hb2 : BookG 5 22 w2 b bs v [] ∨ True := Or.inr trivial; have k1 : w2.cell? ⟨b, 5, none⟩ = some v := (World.cell?_of_block (a := ⟨b, 5, none⟩) HBK.out).trans c0; have k2 : w2.frozen? ⟨b, 5, none⟩ = false := (World.frozen?_of_block (a := ⟨b, 5, none⟩) HBK.out).trans (by obtain ⟨T, h0⟩ := H.out.blk; exact cells_free h0 5); clear hown hgr hat hb2)
  have hgb : g ≠ b := by
    rcases HK.out.2.2 with e | e
    · rintro rfl; exact H.out.ne e
    · rw [e]; have := HLT.out; simp; omega
  have ht : Turned (b :: v.ownBlock.toList) w (w2.setCell ⟨b, 5, none⟩ (.slice (some ⟨g, 0, none⟩) (xs.length + 1) cap)) := by
    have t1 : Turned (b :: v.ownBlock.toList) w (w.alloc (.cells #[.slice x0 x1 x2] 22)) := Turned.ofBelow (below1 _ _)
    refine (t1.trans (Turned.ofGrown HK.out.2.1 (fun y e => ?_))).trans ((Turned.set b 5 _).more (by simp))
    rw [e]; simp
  have hB : BookG 5 22 (w2.setCell ⟨b, 5, none⟩ (.slice (some ⟨g, 0, none⟩) (xs.length + 1) cap)) b (bs.setIfInBounds 5 (.slice (some ⟨g, 0, none⟩) (xs.length + 1) cap)) (.slice (some ⟨g, 0, none⟩) (xs.length + 1) cap) (xs ++ [(x0, x1, x2)]) := by
    refine ⟨?_, by rw [Array.getElem?_setIfInBounds_self_of_lt hbs], ?_, by simpa [Value.ownBlock] using hgb⟩
    · obtain ⟨T, h0⟩ := H.out.blk
      exact ⟨T, cells_set (HBK.out.trans h0) 5 _⟩
    · have h1 := ownsRow_setCell_other (a := ⟨b, 5, none⟩) HK.out.1 (by simpa [Value.ownBlock] using hgb) (.slice (some ⟨g, 0, none⟩) (xs.length + 1) cap)
      rw [show (xs ++ [(x0, x1, x2)]).length = xs.length + 1 by simp, show slC (xs ++ [(x0, x1, x2)]) = slC xs ++ [slV (x0, x1, x2)] by simp [slC]]
      exact h1
  have hat := HK.out.2.2
  go_end0
  refine ⟨rfl, _, hB, ht, ?_⟩
  rcases hat with e | e
  · exact Or.inl (by rw [e]; rfl)
  · right
    intro g' hg'
    simp only [Value.ownBlock, Option.some.injEq] at hg'
    subst hg'
    rw [e]
    simp
end Go.Proofs.YtbaopcpmmdmomaaGreatDoor
