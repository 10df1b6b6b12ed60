/- num.Parse. (under way) -/
import Derived.Test.YthlfbakndbjhoaaDoorNumPn
import Derived.Test.YthlfbakndbjhoaaDoorNumDt
import Derived.Lib.QuietBelow
set_option linter.unusedSimpArgs false
set_option linter.unusedVariables false
namespace Go.Proofs.YthlfbakndbjhoaaDoor
open Go.RowKit
/-- what is read of a text -/
def ParsePost (L : List UInt8) (w : World) (bad : Value) (good : Value) (e : Ending) (w' : World) : Prop :=
  ((∃ z, InS z ∧ printL z = L ∧ e = .returned (.tuple #[.agg #[.int .i64 (hZ z), .int .u64 (lZ z)], good])) ∨
   ((∀ z, InS z → printL z ≠ L) ∧ e = .returned (.tuple #[.agg #[.int .i64 0, .int .u64 0], bad]))) ∧ Below w.heap.size w w'
/-- a text that some sum prints: its sign and its digits -/
theorem text_of {L : List UInt8} {z : Int} (h : printL z = L) : (z < 0 ∧ L = 45 :: decN z.natAbs) ∨ (0 ≤ z ∧ L = decN z.natAbs) := by
  unfold printL at h
  by_cases hz : z < 0
  · rw [if_pos hz] at h; exact .inl ⟨hz, h.symm⟩
  · rw [if_neg hz] at h; exact .inr ⟨by omega, h.symm⟩
theorem decN_head {m : Nat} {t : List UInt8} : decN m ≠ 45 :: t := by
  intro h
  have := decN_dig m 45 (by rw [h]; simp)
  unfold IsDig at this
  exact absurd this.1 (by decide)
/-- below 0: the digits behind the sign -/
theorem neg_text {t : List UInt8} {z : Int} (h : printL z = 45 :: t) : z < 0 ∧ t = decN z.natAbs := by
  rcases text_of h with ⟨h1, h2⟩ | ⟨_, h2⟩
  · exact ⟨h1, (List.cons.inj h2).2⟩
  · exact absurd h2.symm decN_head
theorem pos_text {L : List UInt8} {z : Int} (h : printL z = L) (hL : ∀ t, L ≠ 45 :: t) : 0 ≤ z ∧ L = decN z.natAbs := by
  rcases text_of h with ⟨_, h2⟩ | h2
  · exact absurd h2 (hL _)
  · exact h2
/-- the two results: a sum in its box, and an error -/
theorem results_sum {fn : Func} {u p : Tmp} (h : fn.results = #[.cell p 38, .tmp u]) (tmps : Array Value) (w : World) (R : Nat) (a b : Int) (v : Value) (hu : tmps[u]?.getD undef = v) (hp : tmps[p]?.getD undef = .pointer (some ⟨R, 0, none⟩))
    (z0 : w.cell? ⟨R, 0, none⟩ = some (.int .i64 a)) (z1 : w.cell? ⟨R, 1, none⟩ = some (.int .u64 b)) :
    (results fn tmps).run Tryd.prog w = .ok (.tuple #[.agg #[.int .i64 a, .int .u64 b], v]) w := by
  simp [results, h, go_sem, hp, hu, z0, z1]
/-- the result's box -/
structure PBox (w0 w : World) (R : Nat) : Prop where
  below : Below w0.heap.size w0 w
  old : w0.heap.size ≤ R
  lt : R < w.heap.size
  c0 : w.cell? ⟨R, 0, none⟩ = some (.int .i64 0)
  c1 : w.cell? ⟨R, 1, none⟩ = some (.int .u64 0)
  f : ∀ i, w.frozen? ⟨R, i, none⟩ = false
theorem PBox.alloc (w : World) (T : Nat) : PBox w (w.alloc (.cells #[.int .i64 0, .int .u64 0] T)) w.heap.size where
  below := below1 _ _
  old := Nat.le_refl _
  lt := by simp only [heap_push, Array.size_push]; omega
  c0 := by rw [World.cell?_alloc_at _ _ _ _ rfl]; rfl
  c1 := by rw [World.cell?_alloc_at _ _ _ _ rfl]; rfl
  f := fun i => by simp
theorem PBox.step {w0 w w' : World} {R : Nat} (s : PBox w0 w R) (hb : Below w.heap.size w w') : PBox w0 w' R where
  below := s.below.trans (hb.mono s.below.size)
  old := s.old
  lt := Nat.lt_of_lt_of_le s.lt hb.size
  c0 := by rw [hb.cell (p := ⟨R, 0, none⟩) s.lt]; exact s.c0
  c1 := by rw [hb.cell (p := ⟨R, 1, none⟩) s.lt]; exact s.c1
  f := fun i => by rw [hb.frozen (p := ⟨R, i, none⟩) s.lt]; exact s.f i
theorem PBox.set {w0 w : World} {R : Nat} (s : PBox w0 w R) (a b : Int) :
    ((w.setCell ⟨R, 0, none⟩ (.int .i64 a)).setCell ⟨R, 1, none⟩ (.int .u64 b)).cell? ⟨R, 0, none⟩ = some (.int .i64 a) ∧
    ((w.setCell ⟨R, 0, none⟩ (.int .i64 a)).setCell ⟨R, 1, none⟩ (.int .u64 b)).cell? ⟨R, 1, none⟩ = some (.int .u64 b) ∧
    Below w0.heap.size w0 ((w.setCell ⟨R, 0, none⟩ (.int .i64 a)).setCell ⟨R, 1, none⟩ (.int .u64 b)) :=
  ⟨cell_set_ne (cell_set_eq s.c0) (by omega), cell_set_eq (cell_set_ne s.c1 (by omega)), (s.below.setCell (p := ⟨R, 0, none⟩) s.old _).setCell (p := ⟨R, 1, none⟩) s.old _⟩
theorem ParsePost.long {L : List UInt8} {w w' : World} {bad good : Value} (h : 40 < L.length) (hb : Below w.heap.size w w') : ParsePost L w bad good (.returned (.tuple #[.agg #[.int .i64 0, .int .u64 0], bad])) w' :=
  ⟨.inr ⟨fun z hz e => by have := printL_len hz; rw [e] at this; omega, rfl⟩, hb⟩
theorem PBox.set2 {w0 w : World} {R : Nat} (s : PBox w0 w R) (a b : Int) (cs : Array Value) (T : Nat) :
    (((w.setCell ⟨R, 0, none⟩ (.int .i64 a)).setCell ⟨R, 1, none⟩ (.int .u64 b)).alloc (.cells cs T)).cell? ⟨R, 0, none⟩ = some (.int .i64 a) ∧
    (((w.setCell ⟨R, 0, none⟩ (.int .i64 a)).setCell ⟨R, 1, none⟩ (.int .u64 b)).alloc (.cells cs T)).cell? ⟨R, 1, none⟩ = some (.int .u64 b) ∧
    Below w0.heap.size w0 (((w.setCell ⟨R, 0, none⟩ (.int .i64 a)).setCell ⟨R, 1, none⟩ (.int .u64 b)).alloc (.cells cs T)) := by
  obtain ⟨h0, h1, h2⟩ := s.set a b
  have hl : R < ((w.setCell ⟨R, 0, none⟩ (.int .i64 a)).setCell ⟨R, 1, none⟩ (.int .u64 b)).heap.size := by simp only [size_set]; exact s.lt
  exact ⟨by rw [World.cell?_alloc_lt _ _ _ hl]; exact h0, by rw [World.cell?_alloc_lt _ _ _ hl]; exact h1, h2.trans ((below1 _ _).mono h2.size)⟩
theorem ParsePost.no {L : List UInt8} {w w' : World} {bad good : Value} (h : ∀ z, InS z → printL z = L → False) (hb : Below w.heap.size w w') : ParsePost L w bad good (.returned (.tuple #[.agg #[.int .i64 0, .int .u64 0], bad])) w' :=
  ⟨.inr ⟨fun z hz e => h z hz e, rfl⟩, hb⟩
theorem ParsePost.yes {L : List UInt8} {w w' : World} {bad good : Value} {a b : Int} (hs : SumW a b) (h : printL (sZ a b) = L) (hb : Below w.heap.size w w') : ParsePost L w bad good (.returned (.tuple #[.agg #[.int .i64 a, .int .u64 b], good])) w' :=
  ⟨.inl ⟨sZ a b, inS_of hs, h, by rw [(hl_of hs).1, (hl_of hs).2]⟩, hb⟩
theorem pos_rel {c : UInt8} {t : List UInt8} {x y xh : Int} {ok : Bool} (h45 : ¬ c = 45) (hx : wrap64 x = xh) (x0 : 0 ≤ x) (x1 : x ≤ 18446744073709551615) (y0 : 0 ≤ y) (y1 : y ≤ 18446744073709551615)
    (hg : c :: t ≠ [] → (∀ b ∈ c :: t, IsDig b) → hor (c :: t) < 340282366920938463463374607431768211456 → x * 18446744073709551616 + y = hor (c :: t) ∧ ok = true) :
    ∀ z, InS z → printL z = c :: t → ok = true ∧ sZ xh y = z := by
  intro z hz e
  obtain ⟨h0, h1⟩ := pos_text e (fun t' h => h45 (List.cons.inj h).1)
  obtain ⟨za, zb⟩ := hz
  have hh : hor (c :: t) = z.natAbs := by rw [h1, hor_decN]
  obtain ⟨g1, g2⟩ := hg (by simp) (by rw [h1]; exact decN_dig _) (by rw [hh]; omega)
  rw [hh] at g1
  refine ⟨g2, ?_⟩
  unfold sZ
  rw [← hx]
  unfold wrap64
  omega
theorem printL_ne (z : Int) : printL z ≠ [] := by
  unfold printL
  split
  · simp
  · exact decN_ne _
theorem neg_rel {t : List UInt8} {x y xn yn y' ca x' xh : Int} {ok : Bool} (x0 : 0 ≤ x) (x1 : x ≤ 18446744073709551615) (y0 : 0 ≤ y) (y1 : y ≤ 18446744073709551615)
    (exn : xn = 18446744073709551615 - x) (eyn : yn = 18446744073709551615 - y) (hy' : a64l yn 1 0 = y') (hca : a64h yn 1 0 = ca) (hx' : IntKind.u64.wrap (xn + ca) = x') (hxh : wrap64 x' = xh)
    (hg : t ≠ [] → (∀ b ∈ t, IsDig b) → hor t < 340282366920938463463374607431768211456 → x * 18446744073709551616 + y = hor t ∧ ok = true) :
    ∀ z, InS z → printL z = 45 :: t → ok = true ∧ sZ xh y' = z := by
  intro z hz e
  obtain ⟨h0, h1⟩ := neg_text e
  obtain ⟨za, zb⟩ := hz
  have hh : hor t = z.natAbs := by rw [h1, hor_decN]
  obtain ⟨g1, g2⟩ := hg (by rw [h1]; exact decN_ne _) (by rw [h1]; exact decN_dig _) (by rw [hh]; omega)
  rw [hh] at g1
  refine ⟨g2, ?_⟩
  rw [IntKind.wrap_u64] at hx'
  unfold a64l at hy'
  unfold a64h at hca
  unfold wrap64 at hxh
  unfold sZ
  omega
set_option maxHeartbeats 4000000 in
set_option maxRecDepth 100000 in
theorem parse_any (L : List UInt8) (w : World) :
    Calls Tryd.prog 35 #[strV L] w fun e w' => ParsePost L w (errV 31) .nilIface e w' := by
  unfold strV
  have I := Lib.hid (PBox.alloc w 38)
  cases L with
  | nil =>
    go_enter Tryd.func35, Tryd.ntmps35
    go_wp2_with fail
    refine (digits_any [] _ (by simp)).mono ?_
    rintro e w2 ⟨⟨x, y, ok, rfl, x0, x1, y0, y1, hgood⟩, h2⟩
    have HI := Lib.hid (I.out.step h2)
    clear h2 I hgood
    generalize hR : w.heap.size = R at *
    have HR := Lib.hid hR
    clear hR
    obtain ⟨xh, hxh⟩ : ∃ v, wrap64 x = v := ⟨_, rfl⟩
    have hxh' : IntKind.i64.wrap x = xh := by rw [IntWalk.i64_left]; exact hxh
    have hsw : SumW xh y := ⟨by rw [← hxh]; unfold wrap64; omega, by rw [← hxh]; unfold wrap64; omega, y0, y1⟩
    have HX := Lib.hid hxh
    clear hxh
    have kp := fun w => print_any xh y w hsw
    have c0 := HI.out.c0
    have c1 := HI.out.c1
    have cf := HI.out.f
    have olt := HI.out.lt
    have hno : ∀ z, InS z → printL z = [] → False := fun z _ e => printL_ne z e
    have HNo := Lib.hid hno
    clear hno
    cases ok
    · go_wp2_with (go_at_call 46; refine (new_any _ _ (by decide)).mono ?_; rintro e w' ⟨rfl, rfl⟩)
      obtain ⟨z0, z1, zb⟩ := HI.out.set2 0 0 #[.int .i64 xh, .int .u64 y] 38
      exact bodyPost_ret (results_sum rfl _ _ R 0 0 (errV 31) rfl rfl z0 z1) rfl (ParsePost.no HNo.out zb)
    · clear c0 c1 cf
      go_wp2_with fail
      refine (kp _).mono ?_; rintro e w3 ⟨rfl, h3⟩
      have HJ := Lib.hid ((HI.out.step (below1 w2 (.cells #[.int .i64 xh, .int .u64 y] 38))).step h3)
      have o0 : w3.cell? ⟨w2.heap.size, 0, none⟩ = some (.int .i64 xh) := by
        rw [h3.cell (p := ⟨w2.heap.size, 0, none⟩) (by simp), World.cell?_alloc_at _ _ _ _ rfl]; rfl
      have o1 : w3.cell? ⟨w2.heap.size, 1, none⟩ = some (.int .u64 y) := by
        rw [h3.cell (p := ⟨w2.heap.size, 1, none⟩) (by simp), World.cell?_alloc_at _ _ _ _ rfl]; rfl
      have c0 := HJ.out.c0
      have c1 := HJ.out.c1
      have cf := HJ.out.f
      have olt2 := HJ.out.lt
      clear h3 kp
      unfold strV
      have hne : (printL (sZ xh y) == []) = false := by simpa using printL_ne _
      have hne2 : (printL (sZ xh y)).isEmpty = false := by simpa using printL_ne _
      go_wp2_with (go_at_call 46; refine (new_any _ _ (by decide)).mono ?_; rintro e w' ⟨rfl, rfl⟩)
      obtain ⟨z0, z1, zb⟩ := HJ.out.set 0 0
      exact bodyPost_ret (results_sum rfl _ _ R 0 0 (errV 31) rfl rfl z0 z1) rfl (ParsePost.no HNo.out zb)
  | cons c t =>
    have h0 : ((⟨(c :: t).toArray⟩ : ByteArray)[0]'(by simp [ByteArray.size])) = c := rfl
    by_cases h45 : c = 45
    · subst h45
      by_cases hlen : 40 ≤ t.length
      · go_enter Tryd.func35, Tryd.ntmps35
        go_wp2_with (go_at_call 46; refine (new_any _ _ (by decide)).mono ?_; rintro e w' ⟨rfl, rfl⟩)
        exact bodyPost_ret (results_sum rfl _ _ w.heap.size 0 0 (errV 31) rfl rfl I.out.c0 I.out.c1) rfl (ParsePost.long (by simp only [List.length_cons]; omega) I.out.below)
      · have hlen2 : t.length + 1 ≤ 40 := by omega
        clear hlen
        have hex : (⟨(45 :: t).toArray⟩ : ByteArray).extract 1 (t.length + 1) = ⟨t.toArray⟩ := by
          apply ByteArray.ext
          simp [ByteArray.data_extract]
        go_enter Tryd.func35, Tryd.ntmps35
        go_wp2_with fail
        refine (digits_any t _ (by omega)).mono ?_
        rintro e w2 ⟨⟨x, y, ok, rfl, x0, x1, y0, y1, hgood⟩, h2⟩
        clear hex
        have HI := Lib.hid (I.out.step h2)
        have HG := Lib.hid hgood
        clear h2 I hgood
        generalize hR : w.heap.size = R at *
        have HR := Lib.hid hR
        clear hR
        obtain ⟨xn, hxn⟩ : ∃ v, bits .xor .u64 IntKind.u64.max x = v := ⟨_, rfl⟩
        obtain ⟨yn, hyn⟩ : ∃ v, bits .xor .u64 IntKind.u64.max y = v := ⟨_, rfl⟩
        have exn : xn = 18446744073709551615 - x := by rw [← hxn]; exact not64 x x0 x1
        have eyn : yn = 18446744073709551615 - y := by rw [← hyn]; exact not64 y y0 y1
        have a1 := fun w => add64 yn 1 0 (by omega) (by omega) (by omega) (by omega) w
        obtain ⟨y', hy'⟩ : ∃ v, a64l yn 1 0 = v := ⟨_, rfl⟩
        obtain ⟨ca, hca⟩ : ∃ v, a64h yn 1 0 = v := ⟨_, rfl⟩
        rw [hy', hca] at a1
        obtain ⟨x', hx'⟩ : ∃ v, IntKind.u64.wrap (xn + ca) = v := ⟨_, rfl⟩
        obtain ⟨xh, hxh⟩ : ∃ v, wrap64 x' = v := ⟨_, rfl⟩
        have hxh' : IntKind.i64.wrap x' = xh := by rw [IntWalk.i64_left]; exact hxh
        have hrel := neg_rel x0 x1 y0 y1 exn eyn hy' hca hx' hxh HG.out
        have hsw : SumW xh y' := by
          unfold a64l at hy'
          exact ⟨by rw [← hxh]; unfold wrap64; omega, by rw [← hxh]; unfold wrap64; omega, by omega, by omega⟩
        have y0' := hsw.l0
        have y1' := hsw.l1
        have x0' : 0 ≤ x' := by rw [← hx', IntKind.wrap_u64]; omega
        have x1' : x' ≤ 18446744073709551615 := by rw [← hx', IntKind.wrap_u64]; omega
        have HRel := Lib.hid hrel
        have HX := Lib.hid hxh
        clear hrel HG exn eyn hy' hca hxh
        have kp := fun w => print_any xh y' w hsw
        have c0 := HI.out.c0
        have c1 := HI.out.c1
        have cf := HI.out.f
        have olt := HI.out.lt
        cases ok
        · go_wp2_with (first | simp only [a1] | (go_at_call 46; refine (new_any _ _ (by decide)).mono ?_; rintro e w' ⟨rfl, rfl⟩))
          obtain ⟨z0, z1, zb⟩ := HI.out.set2 0 0 #[.int .i64 xh, .int .u64 y'] 38
          exact bodyPost_ret (results_sum rfl _ _ R 0 0 (errV 31) rfl rfl z0 z1) rfl (ParsePost.no (fun z hz e => by have := (HRel.out z hz e).1; cases this) zb)
        · clear c0 c1 cf
          go_wp2_with (simp only [a1])
          refine (kp _).mono ?_; rintro e w3 ⟨rfl, h3⟩
          have HJ := Lib.hid ((HI.out.step (below1 w2 (.cells #[.int .i64 xh, .int .u64 y'] 38))).step h3)
          have o0 : w3.cell? ⟨w2.heap.size, 0, none⟩ = some (.int .i64 xh) := by
            rw [h3.cell (p := ⟨w2.heap.size, 0, none⟩) (by simp), World.cell?_alloc_at _ _ _ _ rfl]; rfl
          have o1 : w3.cell? ⟨w2.heap.size, 1, none⟩ = some (.int .u64 y') := by
            rw [h3.cell (p := ⟨w2.heap.size, 1, none⟩) (by simp), World.cell?_alloc_at _ _ _ _ rfl]; rfl
          have c0 := HJ.out.c0
          have c1 := HJ.out.c1
          have cf := HJ.out.f
          have olt2 := HJ.out.lt
          clear h3 kp a1
          unfold strV
          by_cases hpr : printL (sZ xh y') = 45 :: t
          · rw [hpr]
            go_wp2
            obtain ⟨z0, z1, zb⟩ := HJ.out.set xh y'
            exact bodyPost_ret (results_sum rfl _ _ R xh y' .nilIface rfl rfl z0 z1) rfl (ParsePost.yes hsw hpr zb)
          · have hne : (printL (sZ xh y') == 45 :: t) = false := by simpa using hpr
            go_wp2_with (go_at_call 46; refine (new_any _ _ (by decide)).mono ?_; rintro e w' ⟨rfl, rfl⟩)
            obtain ⟨z0, z1, zb⟩ := HJ.out.set 0 0
            exact bodyPost_ret (results_sum rfl _ _ R 0 0 (errV 31) rfl rfl z0 z1) rfl (ParsePost.no (fun z hz e => by
              have := (HRel.out z hz e).2; rw [this] at hpr; exact hpr e) zb)
    · have h45' : ((c.toNat : Int) == 45) = false := by
        simp only [beq_eq_false_iff_ne]
        intro e
        exact h45 (UInt8.toNat_inj.1 (by show c.toNat = 45; omega))
      by_cases hlen : 40 ≤ t.length
      · go_enter Tryd.func35, Tryd.ntmps35
        go_wp2_with (go_at_call 46; refine (new_any _ _ (by decide)).mono ?_; rintro e w' ⟨rfl, rfl⟩)
        exact bodyPost_ret (results_sum rfl _ _ w.heap.size 0 0 (errV 31) rfl rfl I.out.c0 I.out.c1) rfl (ParsePost.long (by simp only [List.length_cons]; omega) I.out.below)
      · have hlen2 : t.length + 1 ≤ 40 := by omega
        clear hlen
        go_enter Tryd.func35, Tryd.ntmps35
        go_wp2_with fail
        refine (digits_any (c :: t) _ (by simp only [List.length_cons]; omega)).mono ?_
        rintro e w2 ⟨⟨x, y, ok, rfl, x0, x1, y0, y1, hgood⟩, h2⟩
        have HI := Lib.hid (I.out.step h2)
        have HG := Lib.hid hgood
        clear h2 I hgood
        generalize hR : w.heap.size = R at *
        have HR := Lib.hid hR
        clear hR
        obtain ⟨xh, hxh⟩ : ∃ v, wrap64 x = v := ⟨_, rfl⟩
        have hxh' : IntKind.i64.wrap x = xh := by rw [IntWalk.i64_left]; exact hxh
        have HX := Lib.hid hxh
        have hsw : SumW xh y := ⟨by rw [← hxh]; unfold wrap64; omega, by rw [← hxh]; unfold wrap64; omega, y0, y1⟩
        have kp := fun w => print_any xh y w hsw
        have c0 := HI.out.c0
        have c1 := HI.out.c1
        have cf := HI.out.f
        have olt := HI.out.lt
        have hrel := pos_rel h45 hxh x0 x1 y0 y1 HG.out
        have HRel := Lib.hid hrel
        clear hrel HG
        cases ok
        · go_wp2_with (go_at_call 46; refine (new_any _ _ (by decide)).mono ?_; rintro e w' ⟨rfl, rfl⟩)
          obtain ⟨z0, z1, zb⟩ := HI.out.set2 0 0 #[.int .i64 xh, .int .u64 y] 38
          exact bodyPost_ret (results_sum rfl _ _ R 0 0 (errV 31) rfl rfl z0 z1) rfl (ParsePost.no (fun z hz e => by have := (HRel.out z hz e).1; cases this) zb)
        · clear c0 c1 cf
          go_wp2_with fail
          refine (kp _).mono ?_; rintro e w3 ⟨rfl, h3⟩
          have HJ := Lib.hid ((HI.out.step (below1 w2 (.cells #[.int .i64 xh, .int .u64 y] 38))).step h3)
          have o0 : w3.cell? ⟨w2.heap.size, 0, none⟩ = some (.int .i64 xh) := by
            rw [h3.cell (p := ⟨w2.heap.size, 0, none⟩) (by simp), World.cell?_alloc_at _ _ _ _ rfl]; rfl
          have o1 : w3.cell? ⟨w2.heap.size, 1, none⟩ = some (.int .u64 y) := by
            rw [h3.cell (p := ⟨w2.heap.size, 1, none⟩) (by simp), World.cell?_alloc_at _ _ _ _ rfl]; rfl
          have c0 := HJ.out.c0
          have c1 := HJ.out.c1
          have cf := HJ.out.f
          have olt2 := HJ.out.lt
          clear h3 kp
          unfold strV
          by_cases hpr : printL (sZ xh y) = c :: t
          · rw [hpr]
            go_wp2
            obtain ⟨z0, z1, zb⟩ := HJ.out.set xh y
            exact bodyPost_ret (results_sum rfl _ _ R xh y .nilIface rfl rfl z0 z1) rfl (ParsePost.yes hsw hpr zb)
          · have hne : (printL (sZ xh y) == c :: t) = false := by simpa using hpr
            go_wp2_with (go_at_call 46; refine (new_any _ _ (by decide)).mono ?_; rintro e w' ⟨rfl, rfl⟩)
            obtain ⟨z0, z1, zb⟩ := HJ.out.set 0 0
            exact bodyPost_ret (results_sum rfl _ _ R 0 0 (errV 31) rfl rfl z0 z1) rfl (ParsePost.no (fun z hz e => by
              have := (HRel.out z hz e).2; rw [this] at hpr; exact hpr e) zb)
end Go.Proofs.YthlfbakndbjhoaaDoor
