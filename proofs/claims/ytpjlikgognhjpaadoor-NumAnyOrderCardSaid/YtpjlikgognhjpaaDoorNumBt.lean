/- The walk of the statement NumBetween. Condition: errors.errorType holds the handle of the type error. -/
import Derived.Test.YtpjlikgognhjpaaDoorNumRa
import Derived.StillTailTactics
set_option linter.unusedSimpArgs false
set_option linter.unusedVariables false
namespace Go.Proofs.YtpjlikgognhjpaaDoor
open Go.RowKit
/-- a row of int64 in memory: n of them from a place on -/
def RowI (w : World) (b off n : Nat) (f : Nat → Int) : Prop := ∀ i, i < n → w.cell? ⟨b, off + i, none⟩ = some (.int .i64 (f i))
theorem between_empty (A : Option Addr) (cap : Nat) (w : World) (hG : Glob w) :
    Calls Tryd.prog 8 #[.slice A 0 cap] w fun e w' => e = .returned (.bool true) ∧ Below w.heap.size w w' := by
  go_enter Tryd.func8, Tryd.ntmps8
  go_wp2_with fail
  refine (live_any _ hG).mono ?_; rintro r w1 ⟨rfl, h1⟩
  have G1 := hG.below h1 hG.lt
  go_wp2_with fail
  refine (ratio_zero _ _ _).mono ?_; rintro r w2 ⟨rfl, h2⟩
  have G2 := G1.below h2 G1.lt
  have H2 := h1.trans (h2.mono h1.size)
  clear G1 h1 h2
  go_wp2_with fail
  refine (is_E 21 21 _ G2 (by decide) (by decide)).mono ?_; rintro e w3 ⟨rfl, h3⟩
  have H3 := H2.trans (h3.mono H2.size)
  clear H2 h3
  go_wp2
  go_ret
  exact ⟨rfl, H3⟩

/-- a box of a sum, below which nothing has turned -/
structure SBox (w0 w : World) (B : Nat) (h l : Int) : Prop where
  glob : Glob w
  below : Below w0.heap.size w0 w
  old : w0.heap.size ≤ B
  lt : B < w.heap.size
  pos : 0 < w0.heap.size
  c0 : w.cell? ⟨B, 0, none⟩ = some (.int .i64 h)
  c1 : w.cell? ⟨B, 1, none⟩ = some (.int .u64 l)
  f : ∀ i, w.frozen? ⟨B, i, none⟩ = false
theorem SBox.alloc {w0 w : World} {T : Nat} (hG0 : Glob w0) (hG : Glob w) (hb : Below w0.heap.size w0 w) (h l : Int) : SBox w0 (w.alloc (.cells #[.int .i64 h, .int .u64 l] T)) w.heap.size h l where
  glob := hG.below (below1 _ _) hG.lt
  below := hb.trans ((below1 _ _).mono hb.size)
  old := hb.size
  lt := by simp only [heap_push, Array.size_push]; omega
  pos := hG0.lt
  c0 := by rw [World.cell?_alloc_at _ _ _ _ rfl]; rfl
  c1 := by rw [World.cell?_alloc_at _ _ _ _ rfl]; rfl
  f := fun i => by simp
theorem SBox.step {w0 w w' : World} {B : Nat} {h l : Int} (s : SBox w0 w B h l) (hb : Below w.heap.size w w') : SBox w0 w' B h l where
  glob := s.glob.below hb s.glob.lt
  below := s.below.trans (hb.mono s.below.size)
  old := s.old
  lt := Nat.lt_of_lt_of_le s.lt hb.size
  pos := s.pos
  c0 := by rw [hb.cell (p := ⟨B, 0, none⟩) s.lt]; exact s.c0
  c1 := by rw [hb.cell (p := ⟨B, 1, none⟩) s.lt]; exact s.c1
  f := fun i => by rw [hb.frozen (p := ⟨B, i, none⟩) s.lt]; exact s.f i
theorem SBox.set {w0 w : World} {B : Nat} {h l : Int} (s : SBox w0 w B h l) (h' l' : Int) : SBox w0 ((w.setCell ⟨B, 0, none⟩ (.int .i64 h')).setCell ⟨B, 1, none⟩ (.int .u64 l')) B h' l' := by
  have h0 := s.old
  have h1 := s.pos
  exact {
    glob := glob_set (glob_set s.glob (by omega)) (by omega)
    below := (s.below.setCell (p := ⟨B, 0, none⟩) h0 _).setCell (p := ⟨B, 1, none⟩) h0 _
    old := h0
    lt := by simp only [size_set]; exact s.lt
    pos := h1
    c0 := cell_set_ne (cell_set_eq s.c0) (by omega)
    c1 := cell_set_eq (cell_set_ne s.c1 (by omega))
    f := fun i => by simp only [frozen_set]; exact s.f i }
theorem SBox.drew {w0 w : World} {B : Nat} {h l : Int} (s : SBox w0 w B h l) : SBox w0 w.drew B h l := s.step ⟨rfl, rfl, rfl, Nat.le_refl _, fun _ _ => rfl⟩

theorem plus_sZ (h l n : Int) (hs : SumW h l) (hn : I64 n) (b0 : -170141183460469231731687303715884105728 ≤ sZ h l + n) (b1 : sZ h l + n ≤ 170141183460469231731687303715884105727) :
    SumW (plusHi h l n) (plusLo l n) ∧ sZ (plusHi h l n) (plusLo l n) = sZ h l + n := by
  obtain ⟨e1, e2⟩ := plus_val h l n hs.h0 hs.h1 hs.l0 hs.l1 hn.lo hn.hi
  obtain ⟨h0, h1, l0, l1⟩ := hs
  obtain ⟨n0, n1⟩ := hn
  rw [e1, e2]
  unfold sZ at *
  unfold wrap64
  exact ⟨⟨by omega, by omega, by omega, by omega⟩, by omega⟩

/-- what holds of the sum of k numbers, and of the least and the greatest of them -/
structure BT (k : Nat) (L G SH SL : Int) : Prop where
  l : I64 L
  g : I64 G
  s : SumW SH SL
  a : (k : Int) * L ≤ sZ SH SL
  b : sZ SH SL ≤ (k : Int) * G
theorem BT.step {k : Nat} {L G SH SL x : Int} (h : BT k L G SH SL) (hx : I64 x) (hk : k < 9223372036854775807) :
    BT (k + 1) (if x < L then x else L) (if G < x then x else G) (plusHi SH SL x) (plusLo SL x) := by
  obtain ⟨hl, hg, hs, ha, hb⟩ := h
  have hl2 := hl.lo
  have hl3 := hl.hi
  have hg2 := hg.lo
  have hg3 := hg.hi
  have hx2 := hx.lo
  have hx3 := hx.hi
  have hk' : (k : Int) ≤ 9223372036854775807 := by omega
  have hk0 : (0 : Int) ≤ (k : Int) := by omega
  have m1 : (k : Int) * (-9223372036854775808) ≤ (k : Int) * L := Int.mul_le_mul_of_nonneg_left hl2 hk0
  have m2 : (k : Int) * G ≤ (k : Int) * 9223372036854775807 := Int.mul_le_mul_of_nonneg_left hg3 hk0
  obtain ⟨hs', e⟩ := plus_sZ SH SL x hs hx (by omega) (by omega)
  have key : ∀ L', L' ≤ L → L' ≤ x → ((k + 1 : Nat) : Int) * L' ≤ sZ SH SL + x := by
    intro L' h1 h2
    have := Int.mul_le_mul_of_nonneg_left h1 hk0
    rw [Int.natCast_succ, Int.add_mul]; omega
  have key2 : ∀ G', G ≤ G' → x ≤ G' → sZ SH SL + x ≤ ((k + 1 : Nat) : Int) * G' := by
    intro G' h1 h2
    have := Int.mul_le_mul_of_nonneg_left h1 hk0
    rw [Int.natCast_succ, Int.add_mul]; omega
  refine ⟨?_, ?_, hs', ?_, ?_⟩
  · split
    · exact hx
    · exact hl
  · split
    · exact hx
    · exact hg
  · rw [e]; apply key <;> split <;> omega
  · rw [e]; apply key2 <;> split <;> omega

theorem floor_between {L G SH SL : Int} (k : Nat) (h0 : 0 < k) (h1 : k ≤ 9223372036854775807) (h : BT k L G SH SL) :
    L ≤ floorZ (sZ SH SL) k ∧ floorZ (sZ SH SL) k ≤ G ∧ Fits (floorZ (sZ SH SL) k) := by
  obtain ⟨hl, hg, hs, ha, hb⟩ := h
  have hk0 : (0 : Int) < (k : Int) := by omega
  have e0 : L ≤ floorZ (sZ SH SL) k := by
    unfold floorZ
    rw [Int.fdiv_eq_ediv_of_nonneg _ (Int.le_of_lt hk0)]
    exact Int.le_ediv_of_mul_le hk0 (by rw [Int.mul_comm]; exact ha)
  have e1 : floorZ (sZ SH SL) k ≤ G := by
    unfold floorZ
    rw [Int.fdiv_eq_ediv_of_nonneg _ (Int.le_of_lt hk0)]
    have := Int.ediv_le_of_le_mul hk0 (show sZ SH SL ≤ G * (k : Int) by rw [Int.mul_comm]; exact hb)
    exact this
  have := hl.lo
  have := hg.hi
  exact ⟨e0, e1, by unfold Fits; omega⟩
set_option maxHeartbeats 4000000 in
set_option maxRecDepth 100000 in
theorem between_any (b off n cap : Nat) (f : Nat → Int) (w : World) (hG : Glob w) (hn : 0 < n) (hmax : n ≤ 9223372036854775807) (hr : RowI w b off n f) (hz : ∀ i, i < n → I64 (f i)) :
    Calls Tryd.prog 8 #[.slice (some ⟨b, off, none⟩) n cap] w fun e w' => e = .returned (.bool true) ∧ Below w.heap.size w w' := by
  have hblt : b < w.heap.size := cell_lt (hr 0 hn)
  have hn0 : ((n : Int) == 0) = false := by simp; omega
  have HZ := Lib.hid hz
  clear hz
  go_enter Tryd.func8, Tryd.ntmps8
  go_wp2_with fail
  refine (live_any _ hG).mono ?_; rintro r w1 ⟨rfl, h1⟩
  have G1 := hG.below h1 hG.lt
  have I := SBox.alloc (T := 38) hG G1 h1 0 0
  have hc0 : w1.cell? ⟨b, off, none⟩ = some (.int .i64 (f 0)) := by rw [h1.cell (p := ⟨b, off, none⟩) hblt]; exact hr 0 hn
  have hb1 : b < w1.heap.size := Nat.lt_of_lt_of_le hblt h1.size
  clear G1 h1
  go_wp2_with fail
  generalize hB : w1.heap.size = B at *
  generalize hW : w1.alloc (.cells #[.int .i64 0, .int .u64 0] 38) = w2 at *
  clear hB hW hc0 hb1
  have I0 := Lib.hid I
  clear I
  go_loopw [6, 7, 8] (fun lo hi i wr => ∃ (k : Nat) (L G SH SL : Int), k ≤ n ∧ i = .int .i64 k ∧ lo = .int .i64 L ∧ hi = .int .i64 G ∧ Hid (BT k L G SH SL) ∧ Hid (SBox w wr B SH SL)) (fun _ _ i _ => n - (intOf i).toNat)
  case atStart => exact ⟨0, f 0, f 0, 0, 0, Nat.zero_le _, rfl, rfl, rfl, ⟨HZ.out 0 hn, HZ.out 0 hn, ⟨by decide, by decide, by decide, by decide⟩, by simp [sZ], by simp [sZ]⟩, I0⟩
  case round =>
    obtain ⟨k, L, G, SH, SL, hk, rfl, rfl, rfl, HBT, HI⟩ := hrel
    clear I0
    by_cases hlt : k < n
    · have hx := HZ.out k hlt
      have hc : wr.cell? ⟨b, off + k, none⟩ = some (.int .i64 (f k)) := by rw [HI.out.below.cell (p := ⟨b, off + k, none⟩) hblt]; exact hr k hlt
      have c0 := HI.out.c0
      have c1 := HI.out.c1
      have cf := HI.out.f
      have hrk := hr k hlt
      clear hr
      go_wp2_with fail
      go_still_tail 5, (by kernel_rfl)
      have HD : Hid (SBox w wr.drew B SH SL) := Lib.hid HI.out.drew
      clear HI c0 c1 cf hc
      change wpList _ _ _ _ _ wr.drew
      generalize wr.drew = wd at *
      have sl0 := HBT.out.s.l0
      have sl1 := HBT.out.s.l1
      go_wp2_with fail
      refine (plus_any SH SL (f k) sl0 sl1 _).mono ?_; rintro r w3 ⟨rfl, h3⟩
      have HI : Hid (SBox w w3 B SH SL) := Lib.hid (HD.out.step h3)
      clear HD h3 sl0 sl1
      have c0 := HI.out.c0
      have c1 := HI.out.c1
      have cf := HI.out.f
      have HS : Hid (SBox w ((w3.setCell ⟨B, 0, none⟩ (.int .i64 (plusHi SH SL (f k)))).setCell ⟨B, 1, none⟩ (.int .u64 (plusLo SL (f k)))) B (plusHi SH SL (f k)) (plusLo SL (f k))) := Lib.hid (HI.out.set _ _)
      have hcs : ((w3.setCell ⟨B, 0, none⟩ (.int .i64 (plusHi SH SL (f k)))).setCell ⟨B, 1, none⟩ (.int .u64 (plusLo SL (f k)))).cell? ⟨b, off + k, none⟩ = some (.int .i64 (f k)) := by
        rw [HS.out.below.cell (p := ⟨b, off + k, none⟩) hblt]; exact hrk
      clear HI
      have HN : Hid (BT (k + 1) (if f k < L then f k else L) (if G < f k then f k else G) (plusHi SH SL (f k)) (plusLo SL (f k))) := Lib.hid (HBT.out.step hx (by omega))
      generalize plusHi SH SL (f k) = SH' at *
      generalize plusLo SL (f k) = SL' at *
      go_wp2_with fail
      all_goals (
        refine ⟨⟨k + 1, _, _, SH', SL', by omega, by rw [Int.natCast_succ], rfl, rfl, ?_, HS⟩, ?_⟩
        · simpa [*, Int.not_lt.mpr] using HN
        · simp only [intOf]; omega)
    · obtain rfl : k = n := by omega
      obtain ⟨m0, m1, m2⟩ := floor_between k hn hmax HBT.out
      have c0 := HI.out.c0
      have c1 := HI.out.c1
      have cf := HI.out.f
      have hs := HBT.out.s
      have hR := fun w => ratio_any SH SL k w hs ⟨by omega, by omega⟩ (by omega)
      rw [(fit_yes m2).1, (fit_yes m2).2] at hR
      generalize floorZ (sZ SH SL) k = Q at *
      clear hs m2
      go_wp2_with fail
      refine (hR _).mono ?_; rintro r w3 ⟨rfl, h3⟩
      have HJ := HI.out.step h3
      clear c0 c1 cf HI
      simp only [eV]
      go_wp2
      go_ret
      exact ⟨rfl, HJ.below⟩
end Go.Proofs.YtpjlikgognhjpaaDoor
