/- The document's piece and sign. -/
import Derived.Test.YtnpagnghnohmdaaDoorKeyPd
set_option linter.unusedSimpArgs false
set_option linter.unusedVariables false
namespace Go.Proofs.YtnpagnghnohmdaaDoor
open Go.RowKit
/-- the cells of the document's error -/
def bE : Option Nat → List Value
  | none => [.int .i64 0, .int .i64 0, .int .i64 0, .bool false, .bool false]
  | some p => [.int .i64 53, .int .i64 p, .int .i64 0, .bool true, .bool false]
/-- the document's error -/
def badE (e : Option Nat) : Value := .agg (bE e).toArray
theorem badE_none : badE none = badV 0 := rfl
theorem badE_some (p : Nat) : badE (some p) = badAt p 53 := rfl
/-- what the document's piece returns -/
def rpV : List UInt8 × Nat × Option Nat → Value
  | (t, k, none) => .tuple #[strV t, .int .i64 k, badV 0]
  | (_, _, some p) => .tuple #[strV [], .int .i64 0, badAt p 53]
set_option maxHeartbeats 4000000 in
set_option maxRecDepth 100000 in
theorem rpiece_any (l : List UInt8) (k : Nat) (w : World) (hk : k ≤ l.length) (hl : l.length ≤ 1048576) :
    Calls Tryd.prog 70 #[strV l, .int .i64 k] w fun ev w' => ev = .returned (rpV (pcR l k none)) ∧ Below w.heap.size w w' := by
  have HB : Bx _ := ⟨BB.alloc 35 (Below.refl w.heap.size w)⟩
  have hex := extract_drop (l := l) (k := k)
  have ku := fun w => runescape_any (l.drop k) w (by rw [List.length_drop]; omega)
  have hun := unL_le (l.drop k)
  rw [List.length_drop] at hun
  have hp : pcR l k none = match unL (l.drop k) with | (true, n, o) => (o, k + n, none) | (false, n, _) => ([], k, some (k + n)) := rfl
  generalize unL (l.drop k) = Z at *
  obtain ⟨ok, n, o⟩ := Z
  simp only at hun
  cases ok
  · have HP : Bx (pcR l k none = ([], k, some (k + n))) := ⟨hp⟩
    clear hp
    unfold runV at ku
    go_enter Tryd.func70, Tryd.ntmps70
    go_wp2_with fail
    generalize (w.alloc (.cells #[.int .i64 0, .int .i64 0, .int .i64 0, .bool false, .bool false] 35)) = w1 at *
    generalize hS : w.heap.size = S at *
    have HS : Bx (w.heap.size = S) := ⟨hS⟩
    clear hS
    refine (ku _).mono ?_
    rintro e w2 ⟨rfl, h2⟩
    have HB2 := (HB.out.step h2).step (below1 _ (.cells #[.int .i64 53, .int .i64 n, .int .i64 0, .bool true, .bool false] 35))
    have HX : Bx _ := ⟨HB2⟩
    clear h2 ku HB HB2 hex
    go_wp2_with fail
    change Calls _ _ _ (w2.alloc (.cells #[.int .i64 53, .int .i64 n, .int .i64 0, .bool true, .bool false] 35)) _
    generalize (w2.alloc (.cells #[.int .i64 53, .int .i64 n, .int .i64 0, .bool true, .bool false] 35)) = w3 at *
    refine (badat_any _ 53 _ (by decide)).mono ?_
    rintro e w4 ⟨rfl, h4⟩
    have HB3 := HX.out.step h4
    have c0 := HB3.c0
    have c1 := HB3.c1
    have c2 := HB3.c2
    have c3 := HB3.c3
    have c4 := HB3.c4
    have cf := HB3.f
    have olt := HB3.lt
    clear h4 HX
    go_wp2
    obtain ⟨z0, z1, z2, z3, z4, zb⟩ := HB3.put (.int .i64 53) (.int .i64 (k + n)) (.int .i64 0) (.bool true) (.bool false)
    exact bodyPost_ret (results_tib rfl _ _ S _ _ _ _ _ _ _ rfl rfl rfl ⟨z0, z1, z2, z3, z4⟩) rfl ⟨by rw [HP.out]; simp [rpV], by rw [HS.out]; exact zb⟩
  · have HP : Bx (pcR l k none = (o, k + n, none)) := ⟨hp⟩
    clear hp
    unfold runV at ku
    go_enter Tryd.func70, Tryd.ntmps70
    go_wp2_with fail
    generalize (w.alloc (.cells #[.int .i64 0, .int .i64 0, .int .i64 0, .bool false, .bool false] 35)) = w1 at *
    generalize hS : w.heap.size = S at *
    have HS : Bx (w.heap.size = S) := ⟨hS⟩
    clear hS
    refine (ku _).mono ?_
    rintro e w2 ⟨rfl, h2⟩
    have HB3 := (HB.out.step h2).step (below1 _ (.cells #[.int .i64 0, .int .i64 0, .int .i64 0, .bool false, .bool false] 35))
    have c0 := HB3.c0
    have c1 := HB3.c1
    have c2 := HB3.c2
    have c3 := HB3.c3
    have c4 := HB3.c4
    have cf := HB3.f
    have olt := HB3.lt
    clear h2 ku HB hex
    go_wp2
    obtain ⟨z0, z1, z2, z3, z4, zb⟩ := HB3.put (.int .i64 0) (.int .i64 0) (.int .i64 0) (.bool false) (.bool false)
    exact bodyPost_ret (results_tib rfl _ _ S _ _ _ _ _ _ _ rfl rfl rfl ⟨z0, z1, z2, z3, z4⟩) rfl ⟨by rw [HP.out]; simp [rpV], by rw [HS.out]; exact zb⟩
theorem results_tb {fn : Func} {u p : Tmp} (h : fn.results = #[.tmp u, .cell p 35]) (tmps : Array Value) (w : World) (R : Nat) (a x0 x1 x2 x3 x4 : Value)
    (hu : tmps[u]?.getD undef = a) (hp : tmps[p]?.getD undef = .pointer (some ⟨R, 0, none⟩))
    (z : w.cell? ⟨R, 0, none⟩ = some x0 ∧ w.cell? ⟨R, 1, none⟩ = some x1 ∧ w.cell? ⟨R, 2, none⟩ = some x2 ∧ w.cell? ⟨R, 3, none⟩ = some x3 ∧ w.cell? ⟨R, 4, none⟩ = some x4) :
    (results fn tmps).run Tryd.prog w = .ok (.tuple #[a, .agg #[x0, x1, x2, x3, x4]]) w := by
  obtain ⟨z0, z1, z2, z3, z4⟩ := z
  simp [results, h, go_sem, hu, hp, z0, z1, z2, z3, z4]
set_option maxHeartbeats 4000000 in
set_option maxRecDepth 100000 in
theorem rsign_any (l : List UInt8) (k : Nat) (c : UInt8) (w : World) (hk : k ≤ l.length) (hl : l.length ≤ 1048576) :
    Calls Tryd.prog 71 #[strV l, .int .i64 k, .int .u8 (c.toNat : Int)] w fun ev w' => ev = .returned (bif isR l k none c then .tuple #[.int .i64 ((k + 1 : Nat) : Int), badV 0] else .tuple #[.int .i64 0, badAt k 53]) ∧ Below w.heap.size w w' := by
  have HB : Bx _ := ⟨BB.alloc 35 (Below.refl w.heap.size w)⟩
  by_cases hlt : k < l.length
  · obtain ⟨a, ha⟩ : ∃ a, l.getD k 0 = a := ⟨_, rfl⟩
    have hak : ((⟨l.toArray⟩ : ByteArray)[k]'(by simpa [ByteArray.size] using hlt)) = a := by rw [getD_toArray' hlt, ha]
    have hne : decide ((l.length : Int) ≤ (k : Int)) = false := by simp; omega
    have hac : (((a.toNat : Int) == (c.toNat : Int)) : Bool) = (a == c) := byte_eq a c _ rfl
    have hac2 : (((a.toNat : Int) != (c.toNat : Int)) : Bool) = !(a == c) := by rw [bne, hac]
    have HI : Bx (isR l k none c = (a == c)) := ⟨by unfold isR; rw [ha]; simp [hlt]⟩
    clear ha
    generalize (a == c) = t at *
    cases t
    all_goals
      go_enter Tryd.func71, Tryd.ntmps71
      go_wp2_with fail
    · generalize (w.alloc (.cells #[.int .i64 0, .int .i64 0, .int .i64 0, .bool false, .bool false] 35)) = w1 at *
      generalize hS : w.heap.size = S at *
      have HS : Bx (w.heap.size = S) := ⟨hS⟩
      clear hS
      refine (badat_any _ 53 _ (by decide)).mono ?_
      rintro e w4 ⟨rfl, h4⟩
      have HB3 := HB.out.step h4
      have c0 := HB3.c0
      have c1 := HB3.c1
      have c2 := HB3.c2
      have c3 := HB3.c3
      have c4 := HB3.c4
      have cf := HB3.f
      have olt := HB3.lt
      clear h4 HB
      go_wp2
      obtain ⟨z0, z1, z2, z3, z4, zb⟩ := HB3.put (.int .i64 53) (.int .i64 k) (.int .i64 0) (.bool true) (.bool false)
      exact bodyPost_ret (results_tb rfl _ _ S _ _ _ _ _ _ rfl rfl ⟨z0, z1, z2, z3, z4⟩) rfl ⟨by rw [HI.out]; rfl, by rw [HS.out]; exact zb⟩
    · exact bodyPost_ret (results_tb rfl _ _ w.heap.size _ _ _ _ _ _ rfl rfl ⟨HB.out.c0, HB.out.c1, HB.out.c2, HB.out.c3, HB.out.c4⟩) rfl ⟨by rw [HI.out]; simp, HB.out.below⟩
  · obtain rfl : k = l.length := by omega
    have HI : Bx (isR l l.length none c = false) := ⟨by unfold isR; simp⟩
    have hne : decide ((l.length : Int) ≤ (l.length : Int)) = true := by simp
    go_enter Tryd.func71, Tryd.ntmps71
    go_wp2_with fail
    generalize (w.alloc (.cells #[.int .i64 0, .int .i64 0, .int .i64 0, .bool false, .bool false] 35)) = w1 at *
    generalize hS : w.heap.size = S at *
    have HS : Bx (w.heap.size = S) := ⟨hS⟩
    clear hS
    refine (badat_any _ 53 _ (by decide)).mono ?_
    rintro e w4 ⟨rfl, h4⟩
    have HB3 := HB.out.step h4
    have c0 := HB3.c0
    have c1 := HB3.c1
    have c2 := HB3.c2
    have c3 := HB3.c3
    have c4 := HB3.c4
    have cf := HB3.f
    have olt := HB3.lt
    clear h4 HB
    go_wp2
    obtain ⟨z0, z1, z2, z3, z4, zb⟩ := HB3.put (.int .i64 53) (.int .i64 l.length) (.int .i64 0) (.bool true) (.bool false)
    exact bodyPost_ret (results_tb rfl _ _ S _ _ _ _ _ _ rfl rfl ⟨z0, z1, z2, z3, z4⟩) rfl ⟨by rw [HI.out]; rfl, by rw [HS.out]; exact zb⟩
end Go.Proofs.YtnpagnghnohmdaaDoor
