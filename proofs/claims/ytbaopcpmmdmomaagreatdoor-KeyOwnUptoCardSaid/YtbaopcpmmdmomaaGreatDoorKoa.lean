/- Sort, Join, Group, Parse: what is handed out is a row of the caller's own. Conditions: the two tables of unicode/utf8 and errors.errorType hold what the program's text lays in them. -/
import Derived.Test.YtbaopcpmmdmomaaGreatDoorKeyTi
import Derived.Test.YtbaopcpmmdmomaaGreatDoorAlt
import Derived.Test.YtbaopcpmmdmomaaGreatDoorAlg
set_option linter.unusedSimpArgs false
set_option linter.unusedVariables false
namespace Go.Proofs.YtbaopcpmmdmomaaGreatDoor
open Go.RowKit
open Bk
/-- a row that is handed back, nobody else's -/
structure OwnT (w w' : World) (v : Value) (n : Nat) : Prop where
  ex : ∃ A c L, v = .slice A n c ∧ (L : List (List UInt8)).length = n ∧ RowG encT 1 9 w' v L
  g : ∀ g, gB v = some g → w.heap.size ≤ g
structure OwnG (w w' : World) (v : Value) (n : Nat) : Prop where
  ex : ∃ A c L, v = .slice A n c ∧ (L : List (List UInt8 × List UInt8)).length = n ∧ RowG encG 2 70 w' v L
  g : ∀ g, gB v = some g → w.heap.size ≤ g
theorem txtC_flat (t : Nat → List UInt8) : ∀ k, txtC t k = ((List.range k).map t).flatMap encT := by
  intro k
  unfold txtC
  rw [List.flatMap_map]
  induction k with
  | zero => rfl
  | succ k ih => rw [List.range_succ, List.map_append, ih, List.flatMap_append]; rfl
theorem ownT_of {w w' : World} {v : Value} {n : Nat} {t : Nat → List UInt8} {B : Nat} (h : w'.ownsRow B 9 1 v n (txtC t n)) (hB : w.heap.size ≤ B) : OwnT w w' v n := by
  obtain ⟨A', c', hv, _⟩ := txt_of h
  rw [txtC_flat] at h
  obtain ⟨h1, h2⟩ := RowG.ofOwn (enc := encT) h (by simp)
  exact ⟨⟨A', c', _, hv, by simp, h1⟩, fun g e => Nat.le_trans hB (h2 g e)⟩
theorem tagC_form {w : World} {base : Nat} {v : Value} {ts : List (List UInt8 × List UInt8)} (ho : w.ownsRow base 70 2 v ts.length (tagC ts)) : ∃ A c, v = .slice A ts.length c := by
  obtain ⟨_, ⟨rfl, h⟩ | ⟨M, cap, cur, rfl, _⟩⟩ := id ho
  · exact ⟨none, 0, by rw [h]⟩
  · exact ⟨_, _, rfl⟩
theorem ownG_of {w w' : World} {v : Value} {ts : List (List UInt8 × List UInt8)} {B : Nat} (h : w'.ownsRow B 70 2 v ts.length (tagC ts)) (hB : w.heap.size ≤ B) : OwnG w w' v ts.length := by
  obtain ⟨A', c', hv⟩ := tagC_form h
  obtain ⟨h1, h2⟩ := RowG.ofOwn (enc := encG) (L := ts) h rfl
  exact ⟨⟨A', c', ts, hv, rfl, h1⟩, fun g e => Nat.le_trans hB (h2 g e)⟩
set_option maxHeartbeats 4000000 in
set_option maxRecDepth 100000 in
theorem kgroup_own (A A2 : Option Addr) (n cap N c2 : Nat) (tk tv nm : Nat → List UInt8) (w : World) (hr : TagRow w A n tk tv) (hm : TxtRow w A2 N nm) (hn : n ≤ 9223372036854775807) (hN : N ≤ 1048576) :
    Calls Tryz.prog 9 #[.slice A n cap, .slice A2 N c2] w fun e w' => ∃ v, e = .returned v ∧ OwnT w w' v N ∧ Below w.heap.size w w' := by
  obtain ⟨i0, hi, hiz, hi1, hi2⟩ := info_parts (show (Tryz.prog.info? 9).map (fun i => (i.zero, i.size, i.bytes)) = some (some (.string ⟨#[]⟩), 1, 16) by kernel_rfl)
  have HI0 : Bx (Tryz.prog.info? 9 = some i0 ∧ i0.zero = some (.string ⟨#[]⟩) ∧ i0.size = 1 ∧ i0.bytes = 16) := ⟨hi, hiz, hi1, hi2⟩
  have HR : Bx _ := ⟨And.intro hr hm⟩
  obtain ⟨t, ht⟩ : ∃ t, (fun i => valF tk tv n (nm i)) = t := ⟨_, rfl⟩
  have HT : Bx (∀ i, valF tk tv n (nm i) = t i) := ⟨fun i => by rw [← ht]⟩
  clear hi hiz hi1 hi2 hr hm ht
  go_enter Tryz.func9, Tryz.ntmps9
  go_wp2_with fail
  go_loopw [5, 10] (fun o i wr => ∃ (k : Nat), k ≤ N ∧ i = .int .i64 k ∧ Bx (Below w.heap.size w wr ∧ wr.ownsRow w.heap.size 9 1 o k (txtC t k))) (fun _ i _ => N - (intOf i).toNat)
  case atStart => exact ⟨0, by omega, rfl, ⟨Below.refl _ _, World.ownsRow_nil _ _ _ _⟩⟩
  case round =>
    obtain ⟨k, hk, rfl, HI⟩ := hrel
    by_cases hlt : k < N
    · obtain ⟨b, off, rfl, hrow⟩ := (HR.out.2.below HI.out.1).row (by omega)
      have r0 := hrow k hlt
      have kv := kvalue_any A n cap tk tv (nm k) wr (HR.out.1.below HI.out.1) hn
      rw [HT.out] at kv
      clear hrow
      go_wp2_with fail
      refine kv.mono ?_
      rintro e w1 ⟨rfl, h1⟩
      have HJ : Bx (Below w.heap.size w w1 ∧ w1.ownsRow w.heap.size 9 1 u5 k (txtC t k)) := ⟨HI.out.1.trans (h1.mono HI.out.1.size), HI.out.2.kept (grown_below h1 none) (by cases hv : Value.ownBlock u5 <;> simp)⟩
      clear kv h1 r0 HI
      go_wp2_with (at_builtin; refine wpList_append_own _ rfl _ _ 25 rfl w.heap.size 9 i0 (.string ⟨#[]⟩) 1 16 Tryz.underlying25 HI0.out.1 HI0.out.2.1 HI0.out.2.2.1 HI0.out.2.2.2 rfl (by decide) u5 k (txtC t k) rfl (HJ.out.2.alloc _) ⟨w1.heap.size, 0, none⟩ 1 1 [strV (t k)] rfl rfl (news1 w1 _ _) (one1 _) (by unfold maxLen; omega) (by omega) (by have := HJ.out.1.size; simp only [heap_push, Array.size_push]; omega) ?_; intro v' w2 hown hg _; have HK : Bx (Below w.heap.size w w2 ∧ w2.ownsRow w.heap.size 9 1 v' (k + 1) (txtC t (k + 1))) := ⟨below_own (HJ.out.1.trans ((below1 _ _).mono HJ.out.1.size)) hg (fun g e => (HJ.out.2.lt g e).1) (by have := HJ.out.1.size; simp only [heap_push, Array.size_push]; omega), by rw [txtC_succ]; exact hown⟩; clear hown hg)
      exact ⟨⟨k + 1, by omega, by rw [Int.natCast_succ], HK⟩, by simp only [intOf]; omega⟩
    · obtain rfl : k = N := by omega
      have HK : Bx _ := ⟨ownT_of (w := w) HI.out.2 (Nat.le_refl _)⟩
      go_wp2_with fail
      go_ret
      exact ⟨_, rfl, HK.out, HI.out.1⟩
/-- what Parse tells: a series whose tags are the caller's own -/
def ParO (w : World) (ev : Ending) (w' : World) : Prop := ∃ m v n f x, ev = .returned (.tuple #[.agg #[strV m, v, strV f], x]) ∧ OwnG w w' v n ∧ n ≤ 1048576
theorem ParO.bad (w w' : World) (x : Value) : ParO w (.returned (.tuple #[.agg #[strV [], .slice none 0 0, strV []], x])) w' := ⟨[], _, 0, [], x, rfl, ⟨⟨none, 0, [], rfl, rfl, Or.inr ⟨rfl, none, rfl⟩⟩, fun g e => by cases e⟩, by omega⟩
theorem ParO.good {w w' : World} {B : Nat} {m f : List UInt8} {v x : Value} {ts : List (List UInt8 × List UInt8)} (h : w'.ownsRow B 70 2 v ts.length (tagC ts)) (hB : w.heap.size ≤ B) (hn : ts.length ≤ 1048576) : ParO w (.returned (.tuple #[.agg #[strV m, v, strV f], x])) w' :=
  ⟨m, v, ts.length, f, x, rfl, ownG_of h hB, hn⟩
set_option maxHeartbeats 8000000 in
set_option maxRecDepth 100000 in
theorem parse_own (l : List UInt8) (w : World) (hl : l.length ≤ 1048576) (hG : GlobK w) :
    Calls Tryz.prog 10 #[strV l] w fun ev w' => ParO w ev w' ∧ Below w.heap.size w w' := by
  have HGK : Bx (GlobK w) := ⟨hG⟩
  obtain ⟨i0, hi, hiz, hi1, hi2⟩ := info_parts (show (Tryz.prog.info? 70).map (fun i => (i.zero, i.size, i.bytes)) = some (some (.agg #[.string ⟨#[]⟩, .string ⟨#[]⟩]), 2, 32) by kernel_rfl)
  have HI0 : Bx (Tryz.prog.info? 70 = some i0 ∧ i0.zero = some (.agg #[.string ⟨#[]⟩, .string ⟨#[]⟩]) ∧ i0.size = 2 ∧ i0.bytes = 32) := ⟨hi, hiz, hi1, hi2⟩
  have hlt := hG.g.lt
  clear hi hiz hi1 hi2
  go_enter Tryz.func10, Tryz.ntmps10
  go_wp2_with fail
  have hb2 := below2 w (.cells #[strV [], .slice none 0 0, strV []] 24) (.cells #[strV l, .int .i64 0, .nilIface] 79)
  have hRD : RD ((w.alloc (.cells #[strV [], .slice none 0 0, strV []] 24)).alloc (.cells #[strV l, .int .i64 0, .nilIface] 79)) (w.heap.size + 1) l 0 none :=
    ⟨by simp, by rw [World.cell?_alloc_at _ _ _ _ (by simp)]; rfl, by rw [World.cell?_alloc_at _ _ _ _ (by simp)]; rfl, by rw [World.cell?_alloc_at _ _ _ _ (by simp)]; rfl, fun i => World.frozen?_alloc_at _ _ _ _ (by simp)⟩
  have kp := piece_any (w.heap.size + 1) l 0 none _ hRD (hG.below hb2).g (by omega) (by omega) hl
  change Calls _ _ _ ((w.alloc (.cells #[strV [], .slice none 0 0, strV []] 24)).alloc (.cells #[strV l, .int .i64 0, .nilIface] 79)) _
  have z0 : ((w.alloc (.cells #[strV [], .slice none 0 0, strV []] 24)).alloc (.cells #[strV l, .int .i64 0, .nilIface] 79)).cell? ⟨w.heap.size, 0, none⟩ = some (strV []) := by rw [World.cell?_alloc_lt _ _ _ (by simp), World.cell?_alloc_at _ _ _ _ rfl]; rfl
  have z1 : ((w.alloc (.cells #[strV [], .slice none 0 0, strV []] 24)).alloc (.cells #[strV l, .int .i64 0, .nilIface] 79)).cell? ⟨w.heap.size, 1, none⟩ = some (.slice none 0 0) := by rw [World.cell?_alloc_lt _ _ _ (by simp), World.cell?_alloc_at _ _ _ _ rfl]; rfl
  have z2 : ((w.alloc (.cells #[strV [], .slice none 0 0, strV []] 24)).alloc (.cells #[strV l, .int .i64 0, .nilIface] 79)).cell? ⟨w.heap.size, 2, none⟩ = some (strV []) := by rw [World.cell?_alloc_lt _ _ _ (by simp), World.cell?_alloc_at _ _ _ _ rfl]; rfl
  have zf : ∀ i, ((w.alloc (.cells #[strV [], .slice none 0 0, strV []] 24)).alloc (.cells #[strV l, .int .i64 0, .nilIface] 79)).frozen? ⟨w.heap.size, i, none⟩ = false := fun i => by rw [World.frozen?_alloc_old _ _ _ (by simp)]; exact World.frozen?_alloc_at _ _ _ _ rfl
  have hsz : w.heap.size + 2 ≤ ((w.alloc (.cells #[strV [], .slice none 0 0, strV []] 24)).alloc (.cells #[strV l, .int .i64 0, .nilIface] 79)).heap.size := by simp
  generalize (w.alloc (.cells #[strV [], .slice none 0 0, strV []] 24)).alloc (.cells #[strV l, .int .i64 0, .nilIface] 79) = w1 at *
  generalize hS : w.heap.size = S at *
  have HS : Bx (w.heap.size = S) := ⟨hS⟩
  clear hS
  refine kp.mono ?_
  rintro e w2 ⟨rfl, hg, hr⟩
  have hgs := hg.size
  have hPL := fun (m : List UInt8) (k : Nat) (e : Option Nat) (hr : RD w2 (S + 1) l k e) => (PL.mk (w0 := w) (w := w2.alloc (.cells #[strV m, .slice none 0 0, strV []] 24)) (S := S) (O := w2.heap.size) (l := l) (m := m) (fd := []) (v := .slice none 0 0) (ts := []) (k := k) (e := e)
    ((hb2.trans (below_of_grown hg (by omega) (by omega))).trans ((below1 _ _).mono (by omega))) (hr.step (below1 _ _)) (by omega) (by simp only [heap_push, Array.size_push]; omega)
    (by rw [World.cell?_alloc_at _ _ _ _ rfl]; rfl) (by rw [World.cell?_alloc_at _ _ _ _ rfl]; rfl) (by rw [World.cell?_alloc_at _ _ _ _ rfl]; rfl) (fun i => World.frozen?_alloc_at _ _ _ _ rfl)
    (by rw [World.cell?_alloc_lt _ _ _ (by show S < _; omega)]; exact hg.cell z0 (by simp)) (by rw [World.cell?_alloc_lt _ _ _ (by show S < _; omega)]; exact hg.cell z1 (by simp)) (by rw [World.cell?_alloc_lt _ _ _ (by show S < _; omega)]; exact hg.cell z2 (by simp))
    (fun i => by rw [World.frozen?_alloc_old _ _ _ (by show S ≠ _; omega), hg.frozen_far ⟨S, i, none⟩ (by show S < _; omega) (by simp)]; exact zf i) (World.ownsRow_nil _ _ _ _))
  have hpl := hPL (pcR l 0 none).1 _ _ hr
  clear hPL z0 z1 z2 zf hgs hsz hRD kp hg hr hb2
  have hpl0 := pcR_le l 0 none (by omega)
  have hz : parF l = ((endF l (lpF l l.length (pcR l 0 none).2.2 (pcR l 0 none).2.1 []).2.1 (lpF l l.length (pcR l 0 none).2.2 (pcR l 0 none).2.1 []).1).1, (pcR l 0 none).1, (lpF l l.length (pcR l 0 none).2.2 (pcR l 0 none).2.1 []).2.2,
    (endF l (lpF l l.length (pcR l 0 none).2.2 (pcR l 0 none).2.1 []).2.1 (lpF l l.length (pcR l 0 none).2.2 (pcR l 0 none).2.1 []).1).2) := rfl
  generalize pcR l 0 none = A at *
  obtain ⟨m, k0, e0⟩ := A
  simp only at hpl0 hz hpl
  obtain ⟨Z, hZ⟩ : ∃ Z, lpF l l.length e0 k0 [] = Z := ⟨_, rfl⟩
  rw [hZ] at hz
  have HZ : Bx (parF l = ((endF l Z.2.1 Z.1).1, m, Z.2.2, (endF l Z.2.1 Z.1).2)) := ⟨hz⟩
  have HZL : Bx (lpF l l.length e0 k0 [] = Z) := ⟨hZ⟩
  have HPL : Bx _ := ⟨hpl⟩
  clear hz hZ hpl
  go_wp2_with fail
  change Code.wp _ _ _ _ (w2.alloc (.cells #[strV m, .slice none 0 0, strV []] 24))
  generalize (w2.alloc (.cells #[strV m, .slice none 0 0, strV []] 24)) = w3 at *
  generalize w2.heap.size = O at *
  go_loopw [6] (fun u wr => ∃ (k kc f : Nat) (e : Option Nat) (ts : List (List UInt8 × List UInt8)) (v : Value), Bx (PL w wr S O l m [] v ts kc e) ∧ Bx ((e = none → kc = k ∧ l.length ≤ k + f ∧ ts.length ≤ k) ∧ kc ≤ l.length ∧ ts.length ≤ l.length ∧ TsLe l ts ∧ lpF l f e k ts = Z)) (fun _ wr => meas l S wr)
  case atStart => exact ⟨k0, k0, l.length, e0, [], .slice none 0 0, HPL, ⟨fun _ => ⟨rfl, by omega, by simp⟩, by omega, by simp, fun p hp => (by cases hp), HZL.out⟩⟩
  case round =>
    obtain ⟨k, kc, f, e, ts, v, HP, HF⟩ := hrel
    clear HPL HZL
    have hG1 := HGK.out.below (show Below w.heap.size w wr by rw [HS.out]; exact HP.out.below)
    have ki := is_any (S + 1) l kc e 44 wr HP.out.rd HF.out.2.1 hl
    cases hb : isR l kc e 44
    · rw [hb] at ki
      have hik : isK l kc e 44 = kc := by unfold isK; rw [hb]; rfl
      rw [hik] at ki
      have hZ : Z = (e, k, ts) := by
        rw [← HF.out.2.2.2.2, lpF_stop]
        cases e with
        | none => rw [← (HF.out.1 rfl).1]; exact hb
        | some p => rfl
      have hz := HZ.out
      rw [hZ] at hz
      have hek : endF l k e = endF l kc e := by
        cases e with
        | none => rw [(HF.out.1 rfl).1]
        | some p => rfl
      simp only [hek] at hz
      have HY : Bx _ := ⟨And.intro hz (And.intro HF.out.2.2.1 HF.out.2.2.2.1)⟩
      have hkl := HF.out.2.1
      clear hz hZ hek hik hb HF HZ hG1
      go_wp2_with fail
      refine ki.mono ?_
      rintro ev w4 ⟨rfl, hg4, hr4⟩
      have H4 := HP.out.rdstep hg4 hr4
      clear ki hg4 hr4 HP
      have ki := is_any (S + 1) l kc e 32 w4 H4.rd hkl hl
      obtain ⟨b, hb⟩ : ∃ b, isR l kc e 32 = b := ⟨_, rfl⟩
      obtain ⟨k1, hk1⟩ : ∃ k1, isK l kc e 32 = k1 := ⟨_, rfl⟩
      rw [hb, hk1] at ki
      go_wp2_with fail
      refine ki.mono ?_
      rintro ev w5 ⟨rfl, hg5, hr5⟩
      have H5 := H4.rdstep hg5 hr5
      clear ki hg5 hr5 H4
      have km := must_any (S + 1) l k1 e b w5 H5.rd
      obtain ⟨e1, he1⟩ : ∃ e1, muR k1 e b = e1 := ⟨_, rfl⟩
      rw [he1] at km
      go_wp2_with fail
      refine km.mono ?_
      rintro ev w6 ⟨rfl, hg6, hr6⟩
      have H6 := H5.rdstep hg6 hr6
      clear km hg6 hr6 H5
      have hk1l : k1 ≤ l.length := by
        rw [← hk1]
        unfold isK
        split
        · rename_i h; have := (isR_lt h).2.1; omega
        · exact hkl
      have kp := piece_any (S + 1) l k1 e1 w6 H6.rd (HGK.out.below (show Below w.heap.size w w6 by rw [HS.out]; exact H6.below)).g (by omega) hk1l hl
      have hc3 := pcR_le l k1 e1 hk1l
      obtain ⟨C, hC⟩ : ∃ C, pcR l k1 e1 = C := ⟨_, rfl⟩
      rw [hC] at kp hc3
      obtain ⟨q, hq⟩ : ∃ q, (((C.2.1 : Nat) : Int) == (l.length : Int)) = q := ⟨_, rfl⟩
      have hq2 : (C.2.1 == l.length) = q := by rw [← hq, Bool.eq_iff_iff, beq_iff_eq, beq_iff_eq]; omega
      have hend := fun ok e3 h1 h2 => end_of l kc e b k1 e1 C ok e3 hkl hb hk1.symm he1.symm hC h1 h2
      have HEND : Bx _ := ⟨hend⟩
      clear hend hb hk1 he1 hC
      go_wp2_with fail
      refine kp.mono ?_
      rintro ev w7 ⟨rfl, hg7, hr7⟩
      have H7 := (H6.rdstep hg7 hr7)
      clear kp hg7 hr7 H6
      obtain ⟨ct, ck, ce⟩ := C
      simp only at H7 hq hq2 hc3
      have HE7 : Bx _ := ⟨H7.setF ct⟩
      have o2 := H7.o2
      have of7 := H7.of_
      have olt7 := H7.olt
      have c1 := HE7.out.rd.c1
      have c2 := HE7.out.rd.c2
      clear H7
      cases ce with
      | some p =>
        have km := must_any (S + 1) l ck (some p) false _ HE7.out.rd
        unfold errO at c2
        go_wp2_with fail
        refine km.mono ?_
        rintro ev w8 ⟨rfl, hg8, hr8⟩
        clear c1 c2 o2 of7 olt7
        have H8 := HE7.out.rdstep hg8 hr8
        have HP8 : Bx (parF l = (some p, m, ts, (endF l kc e).2)) := ⟨by rw [HY.out.1, (HEND.out false (some p) (by simp [hq2]) rfl).1]⟩
        have c2 : w8.cell? ⟨S + 1, 2, none⟩ = some (atV p 53) := H8.rd.c2
        have r0 := H8.r0
        have r1 := H8.r1
        have r2 := H8.r2
        have rf := H8.rf
        have rlt : S < w8.heap.size := cell_lt r0
        have HB8 : Bx (Below S w w8) := ⟨H8.below⟩
        clear km hg8 hr8 H8 HE7 HEND HY hq hq2 hc3
        go_wp2_with fail
        go_region
        go_wp2_with fail
        obtain ⟨z0, z1, z2, zb⟩ := ser_put (.string ⟨#[]⟩) (.slice none 0 0) (.string ⟨#[]⟩) HB8.out r0 r1 r2
        exact bodyPost_ret (results_serv rfl _ _ S (strV []) (.slice none 0 0) (strV []) (atV p 53) rfl rfl z0 z1 z2) rfl ⟨ParO.bad _ _ _, by rw [HS.out]; exact zb.trans (Below.refl _ _).drew⟩
      | none =>
        have km := must_any (S + 1) l ck none q _ HE7.out.rd
        unfold errO at c2
        go_wp2_with fail
        refine km.mono ?_
        rintro ev w8 ⟨rfl, hg8, hr8⟩
        clear c1 c2 o2 of7 olt7
        cases q
        · have H8 := HE7.out.rdstep hg8 hr8
          have HP8 : Bx (parF l = (some ck, m, ts, (endF l kc e).2)) := ⟨by rw [HY.out.1, (HEND.out false (some ck) (by simp [hq2]) rfl).1]⟩
          have c2 : w8.cell? ⟨S + 1, 2, none⟩ = some (atV ck 53) := H8.rd.c2
          have r0 := H8.r0
          have r1 := H8.r1
          have r2 := H8.r2
          have rf := H8.rf
          have rlt : S < w8.heap.size := cell_lt r0
          have HB8 : Bx (Below S w w8) := ⟨H8.below⟩
          clear km hg8 hr8 H8 HE7 HEND HY hq hq2 hc3
          go_wp2_with fail
          go_region
          go_wp2_with fail
          obtain ⟨z0, z1, z2, zb⟩ := ser_put (.string ⟨#[]⟩) (.slice none 0 0) (.string ⟨#[]⟩) HB8.out r0 r1 r2
          exact bodyPost_ret (results_serv rfl _ _ S (strV []) (.slice none 0 0) (strV []) (atV ck 53) rfl rfl z0 z1 z2) rfl ⟨ParO.bad _ _ _, by rw [HS.out]; exact zb.trans (Below.refl _ _).drew⟩
        · have H8 := HE7.out.rdstep hg8 hr8
          have hHE := HEND.out true none (by simp [hq2]) rfl
          have HP8 : Bx (parF l = (none, m, ts, ct)) := ⟨by rw [HY.out.1, hHE.1, hHE.2 rfl]⟩
          have c2 : w8.cell? ⟨S + 1, 2, none⟩ = some .nilIface := H8.rd.c2
          have cf := H8.rd.f
          have clt := H8.rd.lt
          obtain ⟨A, cap, rfl, hrow⟩ := row_of_owns H8.own (fun p hp => by have := HY.out.2.2 p hp; omega)
          have HTN : Bx (ts.length ≤ 1048576) := ⟨by have := HY.out.2.1; omega⟩
          have HTS : Bx (∀ p ∈ ts, p.1.length ≤ 9223372036854775807 ∧ p.2.length ≤ 9223372036854775807) := ⟨fun p hp => by have := HY.out.2.2 p hp; omega⟩
          have hser : SerIn w8 m ct A ts.length (fun i => (ts.getD i ([], [])).1) (fun i => (ts.getD i ([], [])).2) := ⟨hrow, by omega, by omega, by have := HY.out.2.1; omega⟩
          have ks := series_any m ct A ts.length cap _ _ w8 hser (HGK.out.below (show Below w.heap.size w w8 by rw [HS.out]; exact H8.below))
          obtain ⟨c, hc⟩ : ∃ c, seriesC m ct ts.length (fun i => (ts.getD i ([], [])).1) (fun i => (ts.getD i ([], [])).2) = c := ⟨_, rfl⟩
          have hc0 : 0 ≤ c := by rw [← hc]; exact seriesC_pos _ _ _ _ _
          rw [hc] at ks
          have HC : Bx _ := ⟨hc⟩
          have HSER : Bx _ := ⟨hser⟩
          have H8B : Bx _ := ⟨H8⟩
          have o0 := H8.o0
          have o1 := H8.o1
          have o2 := H8.o2
          clear km hg8 hr8 H8 HE7 HEND HY hq hq2 hc3 hHE hrow hser hc
          go_wp2_with fail
          refine ks.mono ?_
          rintro ev w9 ⟨rfl, h9⟩
          have H9 := H8B.out.step h9
          clear ks h9 H8B c2 cf clt o0 o1 o2
          have c2 := H9.rd.c2
          have cf := H9.rd.f
          have clt := H9.rd.lt
          by_cases h0 : c = 0
          · subst h0
            have H10 := H9.rdstep (w' := w9.setCell ⟨S + 1, 2, none⟩ .nilIface) (grown_setCell (g := S + 1) (p := ⟨S + 1, 2, none⟩) (grown_refl w9 _) rfl _) (H9.rd.setErr none _ rfl)
            have d2 : (w9.setCell ⟨S + 1, 2, none⟩ .nilIface).cell? ⟨S + 1, 2, none⟩ = some .nilIface := H10.rd.c2
            have o0 := H10.o0
            have o1 := H10.o1
            have o2 := H10.o2
            have r0 := H10.r0
            have r1 := H10.r1
            have r2 := H10.r2
            have rf := H10.rf
            have rlt : S < (w9.setCell ⟨S + 1, 2, none⟩ .nilIface).heap.size := cell_lt r0
            have H10B : Bx _ := ⟨H10⟩
            clear H9 H10
            simp only [eV_zero]
            go_wp2_with fail
            obtain ⟨z0, z1, z2, zb⟩ := ser_put (strV m) (.slice A ts.length cap) (strV ct) H10B.out.below r0 r1 r2
            have hso := H10B.out.so
            have ho := own_put (S := S) (strV m) (.slice A ts.length cap) (strV ct) H10B.out.own (by omega)
            obtain ⟨A', cap', hv, hrow⟩ := row_of_owns ho HTS.out
            simp only [Value.slice.injEq, true_and] at hv
            obtain ⟨rfl, rfl⟩ := hv
            exact bodyPost_ret (results_serv rfl _ _ S (strV m) (.slice A ts.length cap) (strV ct) .nilIface rfl rfl z0 z1 z2) rfl ⟨ParO.good ho (by have := HS.out; omega) HTN.out, by rw [HS.out]; exact zb⟩
          · have hc1 : 1 ≤ c := by omega
            rw [eV_pos hc1]
            have d2 : (w9.setCell ⟨S + 1, 2, none⟩ (errV c)).cell? ⟨S + 1, 2, none⟩ = some (errV c) := cell_set_eq c2
            have r0 : (w9.setCell ⟨S + 1, 2, none⟩ (errV c)).cell? ⟨S, 0, none⟩ = some (strV []) := by rw [World.cell?_setCell_other _ _ _ _ (by intro e; injection e; omega)]; exact H9.r0
            have r1 : (w9.setCell ⟨S + 1, 2, none⟩ (errV c)).cell? ⟨S, 1, none⟩ = some (.slice none 0 0) := by rw [World.cell?_setCell_other _ _ _ _ (by intro e; injection e; omega)]; exact H9.r1
            have r2 : (w9.setCell ⟨S + 1, 2, none⟩ (errV c)).cell? ⟨S, 2, none⟩ = some (strV []) := by rw [World.cell?_setCell_other _ _ _ _ (by intro e; injection e; omega)]; exact H9.r2
            have rf : ∀ i, (w9.setCell ⟨S + 1, 2, none⟩ (errV c)).frozen? ⟨S, i, none⟩ = false := fun i => by rw [World.frozen?_setCell]; exact H9.rf i
            have rlt : S < (w9.setCell ⟨S + 1, 2, none⟩ (errV c)).heap.size := cell_lt r0
            have HB8 : Bx (Below S w (w9.setCell ⟨S + 1, 2, none⟩ (errV c))) := ⟨H9.below.setCell (p := ⟨S + 1, 2, none⟩) (by show S ≤ S + 1; omega) _⟩
            clear H9 HSER
            go_wp2_with fail
            go_region
            go_wp2_with fail
            obtain ⟨z0, z1, z2, zb⟩ := ser_put (.string ⟨#[]⟩) (.slice none 0 0) (.string ⟨#[]⟩) HB8.out r0 r1 r2
            exact bodyPost_ret (results_serv rfl _ _ S (strV []) (.slice none 0 0) (strV []) (errV c) rfl rfl z0 z1 z2) rfl ⟨ParO.bad _ _ _, by rw [HS.out]; exact zb.trans (Below.refl _ _).drew⟩
    · rw [hb] at ki
      obtain ⟨rfl, hklt, _⟩ := isR_lt hb
      obtain ⟨⟨rfl, hf, htl⟩, hkl, htl2, hts, hlp⟩ := (show (kc = k ∧ l.length ≤ k + f ∧ ts.length ≤ k) ∧ kc ≤ l.length ∧ ts.length ≤ l.length ∧ TsLe l ts ∧ lpF l f none k ts = Z from ⟨HF.out.1 rfl, HF.out.2⟩)
      have hik : isK l kc none 44 = kc + 1 := by unfold isK; rw [hb]; rfl
      rw [hik] at ki
      obtain ⟨f', hf', hlp'⟩ := lpF_step (ts := ts) hf hb
      rw [hlp] at hlp'
      have htf := tagF_le l kc hklt
      have HFF : Bx _ := ⟨And.intro hf' (And.intro hlp' (And.intro htf (And.intro htl hts)))⟩
      clear hlp' hlp hf' htf hts hf htl hik hb HF hG1
      go_wp2_with fail
      refine ki.mono ?_
      rintro e w4 ⟨rfl, hg4, hr4⟩
      have H4 := HP.out.rdstep hg4 hr4
      have HM : Bx (meas l S wr = l.length + 1 - kc) := ⟨meas_none HP.out.rd⟩
      clear ki hg4 hr4 HP
      have kp := piece_any (S + 1) l (kc + 1) none w4 H4.rd (HGK.out.below (show Below w.heap.size w w4 by rw [HS.out]; exact H4.below)).g (by omega) (by omega) hl
      obtain ⟨a1, a2, a3⟩ := pcR_le l (kc + 1) none (by omega)
      obtain ⟨A, hA⟩ : ∃ A, pcR l (kc + 1) none = A := ⟨_, rfl⟩
      rw [hA] at kp a1 a2 a3
      go_wp2_with fail
      refine kp.mono ?_
      rintro e w5 ⟨rfl, hg5, hr5⟩
      have H5 := H4.rdstep hg5 hr5
      clear kp hg5 hr5 H4
      have ki := is_any (S + 1) l A.2.1 A.2.2 61 w5 H5.rd a2 hl
      obtain ⟨b, hb⟩ : ∃ b, isR l A.2.1 A.2.2 61 = b := ⟨_, rfl⟩
      obtain ⟨k1, hk1⟩ : ∃ k1, isK l A.2.1 A.2.2 61 = k1 := ⟨_, rfl⟩
      rw [hb, hk1] at ki
      go_wp2_with fail
      refine ki.mono ?_
      rintro e w6 ⟨rfl, hg6, hr6⟩
      have H6 := H5.rdstep hg6 hr6
      clear ki hg6 hr6 H5
      have km := must_any (S + 1) l k1 A.2.2 b w6 H6.rd
      obtain ⟨e1, he1⟩ : ∃ e1, muR k1 A.2.2 b = e1 := ⟨_, rfl⟩
      rw [he1] at km
      go_wp2_with fail
      refine km.mono ?_
      rintro e w7 ⟨rfl, hg7, hr7⟩
      have H7 := H6.rdstep hg7 hr7
      clear km hg7 hr7 H6
      have hk1l : k1 ≤ l.length := by
        rw [← hk1]
        unfold isK
        split
        · rename_i h; have := (isR_lt h).2.1; omega
        · exact a2
      go_wp2_with fail
      have H7d := H7.step (Below.refl _ _).drew
      have kp := piece_any (S + 1) l k1 e1 w7.drew H7d.rd (HGK.out.below (show Below w.heap.size w w7.drew by rw [HS.out]; exact H7d.below)).g (by omega) hk1l hl
      have o7 := H7.o1
      have hc3 := pcR_le l k1 e1 hk1l
      obtain ⟨C, hC⟩ : ∃ C, pcR l k1 e1 = C := ⟨_, rfl⟩
      rw [hC] at kp hc3
      have HR : Bx (Round l kc A.1 C.1 C.2.1 C.2.2) := ⟨round_of l kc A C b k1 e1 hA hb hk1.symm he1.symm hC⟩
      have HC3 : Bx _ := ⟨hc3⟩
      clear hA hb hk1 he1 hC hc3 H7
      go_region_law (first | (refine step_append_lies _ rfl _ _ 22 rfl (O + 1) 70 i0 (.agg #[.string ⟨#[]⟩, .string ⟨#[]⟩]) 2 32 Tryz.underlying22 HI0.out.1 HI0.out.2.1 HI0.out.2.2.1 HI0.out.2.2.2 rfl (by decide) v ts.length (tagC ts) (by simp [Act.eval, Act.put]) (H8.own.alloc _) ⟨w8.heap.size, 0, none⟩ 1 1 [strV A.1, strV C.1] (by simp [Act.eval, Act.put]) rfl (news2 w8 _ _ _) (one2 _ _) (by decide) (by unfold maxLen; omega) (by omega) (by simp only [heap_push, Array.size_push]; omega) _ rfl ?_; intro g cap w9 hown hgrow hat hlt9; obtain ⟨o9, of9, olt9⟩ := H8a.far hgrow) | (go_simp; go_at_call 19; refine kp.mono ?_; rintro e w8 ⟨rfl, hg8, hr8⟩; have H8 := H7d.rdstep hg8 hr8; have H8a := H8.step (below1 w8 (.cells #[strV A.1, strV C.1] 70)); have o8 := H8.o1; have olt8 := H8.olt))
      all_goals
        have H9 := H8a.push hown hgrow
        have HE9 : Bx _ := ⟨H9⟩
        obtain ⟨hf', hlp', htf, htl, hts⟩ := HFF.out
        rw [HR.out.err, HR.out.tag] at hlp'
        have hts' : TsLe l (ts ++ [(A.1, C.1)]) := fun p hp => by
          simp only [List.mem_append, List.mem_cons, List.not_mem_nil, or_false] at hp
          rcases hp with hp | rfl
          · exact hts p hp
          · exact ⟨a3, HC3.out.2.2⟩
        have hnone : C.2.2 = none → C.2.1 = (tagF l kc).2.1 ∧ l.length ≤ (tagF l kc).2.1 + f' ∧ (ts ++ [(A.1, C.1)]).length ≤ (tagF l kc).2.1 := fun h => by
          have h1 := (htf.1 (HR.out.err.trans h)).1
          have h2 := HR.out.at_ h
          exact ⟨h2.symm, by omega, by simp; omega⟩
        have hms : meas l S (w9.setCell ⟨O, 1, none⟩ (.slice (some ⟨g, 0, none⟩) (ts.length + 1) cap)) < meas l S wr := by
          rw [HM.out]
          have hrd := H9.rd
          cases hc : C.2.2 with
          | none =>
            have h1 := (htf.1 (HR.out.err.trans hc)).1
            have h2 := HR.out.at_ hc
            rw [hc] at hrd
            rw [meas_none hrd]
            omega
          | some p =>
            rw [hc] at hrd
            rw [meas_some hrd]
            omega
        have HFIN : Bx _ := ⟨And.intro hnone (And.intro HC3.out.2.1 (And.intro (show (ts ++ [(A.1, C.1)]).length ≤ l.length by simp; omega) (And.intro hts' (And.intro hlp'.symm hms))))⟩
        clear hnone hms hts' hlp' hf' htf htl hts H9 H8a H8 H7d hgrow hown hat o9 of9 o8 olt8 olt9 kp hg8 hr8 HR HC3 HFF HM
        generalize w9.setCell ⟨O, 1, none⟩ (.slice (some ⟨g, 0, none⟩) (ts.length + 1) cap) = w10 at *
        go_wp2
        exact ⟨⟨(tagF l kc).2.1, C.2.1, f', C.2.2, ts ++ [(A.1, C.1)], _, HE9, ⟨HFIN.out.1, HFIN.out.2.1, HFIN.out.2.2.1, HFIN.out.2.2.2.1, HFIN.out.2.2.2.2.1⟩⟩, HFIN.out.2.2.2.2.2⟩
theorem ksort_own (A : Option Addr) (n cap : Nat) (tk tv : Nat → List UInt8) (w : World) (hr : TagRow w A n tk tv) (hn : n ≤ 1048576) :
    Calls Tryz.prog 6 #[.slice A n cap] w fun e w' => ∃ v, e = .returned v ∧ OwnG w w' v (srtT tk tv n).length ∧ Below w.heap.size w w' :=
  (ksort_any A n cap tk tv w hr hn).mono fun e w' ⟨v', h1, h2, h3⟩ => ⟨v', h1, ownG_of h2 (Nat.le_refl _), h3⟩
theorem kjoin_own (A A2 : Option Addr) (n c1 N c2 : Nat) (nm vl : Nat → List UInt8) (w : World) (h1 : TxtRow w A n nm) (h2 : TxtRow w A2 N vl) (hl : ∀ i, i < min n N → (nm i).length ≤ 9223372036854775807 ∧ (vl i).length ≤ 9223372036854775807) (hn : n ≤ 1048576) (hN : N ≤ 1048576) :
    Calls Tryz.prog 7 #[.slice A n c1, .slice A2 N c2] w fun e w' => ∃ v, e = .returned v ∧ OwnG w w' v (joinS nm vl (min n N)).length ∧ Below w.heap.size w w' :=
  (kjoin_any A A2 n c1 N c2 nm vl w h1 h2 hl hn hN).mono fun e w' ⟨v', h1, h2, h3⟩ => ⟨v', h1, ownG_of h2 (Nat.le_refl _), h3⟩
end Go.Proofs.YtbaopcpmmdmomaaGreatDoor
