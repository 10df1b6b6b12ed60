/- The document's Text; tags with a marked one behind them (lent, kept). -/
import Derived.Test.YtbaopcpmmdmomaaGreatDoorKeyW
import Derived.Laws.AppendOwn
import Derived.Laws.AppendOwnNone
import Derived.Laws.OwnMore
set_option linter.unusedSimpArgs false
set_option linter.unusedVariables false
namespace Go.Proofs.YtbaopcpmmdmomaaGreatDoor
open Go.RowKit
/-- the cells of a row of tags -/
def tagL (tk tv : Nat → List UInt8) : Nat → List Value
  | 0 => []
  | n + 1 => tagL tk tv n ++ [strV (tk n), strV (tv n)]
theorem tagL_len (tk tv : Nat → List UInt8) (n : Nat) : (tagL tk tv n).length = n * 2 := by
  induction n with
  | zero => rfl
  | succ n ih => simp only [tagL, List.length_append, ih, List.length_cons, List.length_nil]; omega
theorem tagL_one (tk tv : Nat → List UInt8) (n : Nat) : ∀ u ∈ tagL tk tv n, u.oneCell' = true := by
  induction n with
  | zero => intro u hu; simp [tagL] at hu
  | succ n ih =>
    intro u hu
    simp only [tagL, List.mem_append, List.mem_cons, List.not_mem_nil, or_false] at hu
    rcases hu with hu | rfl | rfl
    · exact ih u hu
    · rfl
    · rfl
theorem tagL_get {tk tv : Nat → List UInt8} {n i : Nat} (h : i < n) : (tagL tk tv n)[i * 2]? = some (strV (tk i)) ∧ (tagL tk tv n)[i * 2 + 1]? = some (strV (tv i)) := by
  induction n with
  | zero => omega
  | succ n ih =>
    have hl := tagL_len tk tv n
    by_cases hi : i < n
    · unfold tagL
      rw [List.getElem?_append_left (by omega), List.getElem?_append_left (by omega)]
      exact ih hi
    · obtain rfl : i = n := by omega
      unfold tagL
      rw [List.getElem?_append_right (by omega), List.getElem?_append_right (by omega), hl]
      simp
theorem tagL_all {tk tv : Nat → List UInt8} {n : Nat} {P : Nat → Value → Prop} (h : ∀ i, i < n → P (i * 2) (strV (tk i)) ∧ P (i * 2 + 1) (strV (tv i))) : ∀ j u, (tagL tk tv n)[j]? = some u → P j u := by
  intro j u hj
  have hl : j < n * 2 := by have := (List.getElem?_eq_some_iff.1 hj).1; rwa [tagL_len] at this
  have hi : j / 2 < n := by omega
  obtain ⟨g0, g1⟩ := tagL_get (tk := tk) (tv := tv) hi
  obtain ⟨p0, p1⟩ := h (j / 2) hi
  rcases Nat.mod_two_eq_zero_or_one j with hm | hm
  · have e : j / 2 * 2 = j := by omega
    rw [e] at g0 p0
    rw [hj] at g0
    injection g0 with g0
    rw [g0]; exact p0
  · have e : j / 2 * 2 + 1 = j := by omega
    rw [e] at g1 p1
    rw [hj] at g1
    injection g1 with g1
    rw [g1]; exact p1
theorem below_own {B : Nat} {w a b : World} {row : Option Nat} (h : Below B w a) (hg : a.grownBy b row) (hr : ∀ g, row = some g → B ≤ g) (hB : B ≤ a.heap.size) : Below B w b :=
  h.trans ⟨hg.os, hg.tape, hg.output, hg.size, fun k hk => hg.block k (by omega) (fun e => by have := hr k (by rw [e]); omega)⟩
/-- "mark" -/
abbrev markL : List UInt8 := [109, 97, 114, 107]
/-- tags lent out: the same, in a row of their own, with a marked one behind them -/
structure Lent (w w' : World) (M n capm : Nat) (tk tv : Nat → List UInt8) : Prop where
  below : Below w.heap.size w w'
  base : w.heap.size ≤ M
  lt : M < w'.heap.size
  cap : n + 1 ≤ capm
  row : TagRow w' (some ⟨M, 0, none⟩) n tk tv
  c0 : w'.cell? ⟨M, n * 2, none⟩ = some (strV markL)
  c1 : w'.cell? ⟨M, n * 2 + 1, none⟩ = some (strV [])
theorem Lent.made {w w' : World} {v : Value} {n : Nat} {tk tv : Nat → List UInt8} (hl : ∀ i, i < n → (tk i).length ≤ 9223372036854775807 ∧ (tv i).length ≤ 9223372036854775807) (hb : Below w.heap.size w w')
    (ho : w'.ownsRow w.heap.size 70 2 v (n + 1) (tagL tk tv n ++ [strV markL, strV []])) : ∃ M capm, v = .slice (some ⟨M, 0, none⟩) (n + 1) capm ∧ Lent w w' M n capm tk tv := by
  obtain ⟨hlen, h1 | ⟨M, capm, cur, rfl, hbM, hg, hnc, hcm, hcs, htk⟩⟩ := id ho
  · omega
  · have hc := fun (j : Nat) (hj : j < (n + 1) * 2) => ho.cellAt j hj
    have hL := tagL_len tk tv n
    refine ⟨M, capm, rfl, hb, hbM, ?_, hnc, ⟨fun _ => ⟨M, 0, rfl, fun i hi => ?_⟩, hl⟩, ?_, ?_⟩
    · exact (Array.getElem?_eq_some_iff.1 hg).1
    · obtain ⟨g0, g1⟩ := tagL_get (tk := tk) (tv := tv) hi
      rw [Nat.zero_add, hc _ (by omega), hc _ (by omega), List.getElem?_append_left (by omega), List.getElem?_append_left (by omega)]
      exact ⟨g0, g1⟩
    · rw [hc _ (by omega), List.getElem?_append_right (by omega), hL]; simp
    · rw [hc _ (by omega), List.getElem?_append_right (by omega), hL]; simp
set_option maxHeartbeats 4000000 in
set_option maxRecDepth 100000 in
theorem lent_any (A : Option Addr) (n cap : Nat) (tk tv : Nat → List UInt8) (w : World) (hr : TagRow w A n tk tv) (hn : n * 32 ≤ 140737488351232) (hA : A = none → n = 0 ∧ cap = 0) :
    Calls Tryz.prog 4 #[.slice A n cap] w fun e w' => ∃ M capm, e = .returned (.slice (some ⟨M, 0, none⟩) n capm) ∧ Lent w w' M n capm tk tv := by
  obtain ⟨i0, hi, hiz, hi1, hi2⟩ := info_parts (show (Tryz.prog.info? 70).map (fun i => (i.zero, i.size, i.bytes)) = some (some (.agg #[.string ⟨#[]⟩, .string ⟨#[]⟩]), 2, 32) by kernel_rfl)
  have HI0 : Bx (Tryz.prog.info? 70 = some i0 ∧ i0.zero = some (.agg #[.string ⟨#[]⟩, .string ⟨#[]⟩]) ∧ i0.size = 2 ∧ i0.bytes = 32) := ⟨hi, hiz, hi1, hi2⟩
  clear hi hiz hi1 hi2
  have hone := tagL_one tk tv n
  have hlen := tagL_len tk tv n
  have hmk : ∀ (w1 w2 : World) (v1 v2 : Value) , Below w.heap.size w w1 → w1.ownsRow w.heap.size 70 2 v1 n (tagL tk tv n) → w2.ownsRow w.heap.size 70 2 v2 (n + 1) (tagL tk tv n ++ [strV markL, strV []]) → (w1.alloc (.cells #[strV markL, strV []] 70)).grownBy w2 v1.ownBlock →
      ∃ M capm, v2 = .slice (some ⟨M, 0, none⟩) (n + 1) capm ∧ Lent w w2 M n capm tk tv := fun w1 w2 v1 v2 hb1 ho1 ho2 hg =>
    Lent.made hr.len (below_own (hb1.alloc hb1.size _) hg (fun g e => (ho1.lt g e).1) (by have := hb1.size; simp only [heap_push, Array.size_push]; omega)) ho2
  have HM : Bx _ := ⟨hmk⟩
  have hsec : ∀ (w1 : World), Below w.heap.size w w1 → w.heap.size ≤ (w1.alloc (.cells #[strV markL, strV []] 70)).heap.size := fun w1 h => by have := h.size; simp only [heap_push, Array.size_push]; omega
  have HS : Bx _ := ⟨hsec⟩
  have hnew2 : ∀ (w1 : World) (j : Nat) (u : Value), [strV markL, strV []][j]? = some u → (w1.alloc (.cells #[strV markL, strV []] 70)).cell? ((⟨w1.heap.size, 0, none⟩ : Addr).add j) = some u := fun w1 j u hj => by
    have e : (⟨w1.heap.size, 0, none⟩ : Addr).add j = ⟨w1.heap.size, j, none⟩ := by simp [Addr.add]; omega
    rw [e, World.cell?_alloc_at _ _ _ _ rfl]
    match j, hj with
    | 0, hj => simpa using hj
    | 1, hj => simpa using hj
  have HN2 : Bx _ := ⟨hnew2⟩
  have hone2 : ∀ u ∈ [strV markL, strV []], u.oneCell' = true := fun u hu => by
    simp only [List.mem_cons, List.not_mem_nil, or_false] at hu
    rcases hu with rfl | rfl <;> rfl
  have HO2 : Bx _ := ⟨hone2⟩
  have HO1 : Bx _ := ⟨And.intro hone hlen⟩
  clear hmk hsec hnew2 hone2 hone hlen
  cases A with
  | none =>
    obtain ⟨rfl, rfl⟩ := hA rfl
    clear hA
    go_enter Tryz.func4, Tryz.ntmps4
    go_wp2_with (first | (at_builtin; refine wpList_append_own_none rfl _ _ 22 rfl w.heap.size 70 i0 2 Tryz.underlying22 HI0.out.1 _ 0 [] rfl (World.ownsRow_nil _ _ _ _) rfl ?_) | (at_builtin; refine wpList_append_own _ rfl _ _ 22 rfl w.heap.size 70 i0 (.agg #[.string ⟨#[]⟩, .string ⟨#[]⟩]) 2 32 Tryz.underlying22 HI0.out.1 HI0.out.2.1 HI0.out.2.2.1 HI0.out.2.2.2 rfl (by decide) _ 0 [] rfl (World.ownsRow_nil _ _ _ _) _ 1 1 [strV markL, strV []] rfl rfl (HN2.out w) HO2.out (by decide) (by decide) (HS.out _ (Below.refl _ _)) ?_; intro v2 w2 hown2 hg2 _; obtain ⟨M, capm, rfl, HL⟩ := HM.out w w2 _ v2 (Below.refl _ _) (World.ownsRow_nil _ _ _ _) hown2 hg2; have hcap := HL.cap))
    go_ret
    exact ⟨M, capm, rfl, HL⟩
  | some ad =>
    clear hA
    have hn1 : ∀ j u, (tagL tk tv n)[j]? = some u → w.cell? (ad.add j) = some u := by
      rcases Nat.eq_zero_or_pos n with rfl | hp
      · intro j u hj; simp [tagL] at hj
      · obtain ⟨b, off, e, hrow⟩ := hr.row hp
        injection e with e
        subst e
        refine tagL_all fun i hi => ?_
        obtain ⟨r0, r1⟩ := hrow i hi
        refine ⟨?_, ?_⟩
        · rw [show (⟨b, off, none⟩ : Addr).add (i * 2) = ⟨b, off + i * 2, none⟩ by simp [Addr.add]]; exact r0
        · rw [show (⟨b, off, none⟩ : Addr).add (i * 2 + 1) = ⟨b, off + i * 2 + 1, none⟩ by simp [Addr.add, Nat.add_assoc]]; exact r1
    have HN1 : Bx _ := ⟨hn1⟩
    clear hn1 hr
    go_enter Tryz.func4, Tryz.ntmps4
    go_wp2_with (first | (at_builtin; refine wpList_append_own _ rfl _ _ 22 rfl w.heap.size 70 i0 (.agg #[.string ⟨#[]⟩, .string ⟨#[]⟩]) 2 32 Tryz.underlying22 HI0.out.1 HI0.out.2.1 HI0.out.2.2.1 HI0.out.2.2.2 rfl (by decide) v1 n (tagL tk tv n) rfl (HB1.out.2.alloc _) ⟨w1.heap.size, 0, none⟩ 1 1 [strV markL, strV []] rfl rfl (HN2.out w1) HO2.out (by unfold maxLen; omega) (by omega) (HS.out _ HB1.out.1) ?_; intro v2 w2 hown2 hg2 _; obtain ⟨M, capm, rfl, HL⟩ := HM.out w1 w2 v1 v2 HB1.out.1 HB1.out.2 hown2 hg2; have hcap := HL.cap) | (at_builtin; refine wpList_append_own _ rfl _ _ 22 rfl w.heap.size 70 i0 (.agg #[.string ⟨#[]⟩, .string ⟨#[]⟩]) 2 32 Tryz.underlying22 HI0.out.1 HI0.out.2.1 HI0.out.2.2.1 HI0.out.2.2.2 rfl (by decide) _ 0 [] rfl (World.ownsRow_nil _ _ _ _) ad n cap (tagL tk tv n) rfl HO1.out.2 HN1.out HO1.out.1 (by unfold maxLen; omega) (by omega) (Nat.le_refl _) ?_; intro v1 w1 hown1 hg1 _; have HB1 : Bx (Below w.heap.size w w1 ∧ w1.ownsRow w.heap.size 70 2 v1 n (tagL tk tv n)) := ⟨below_own (Below.refl _ _) hg1 (fun g e => by cases e) (Nat.le_refl _), by have := hown1; rwa [Nat.zero_add, List.nil_append] at this⟩; clear hown1 hg1))
    go_ret
    exact ⟨M, capm, rfl, HL⟩
end Go.Proofs.YtbaopcpmmdmomaaGreatDoor
