/- A program among a statement's arguments. -/
import Derived.Test.YtbcajmkmadgbhaaGreatDoorVrB
import Derived.Test.YtbcajmkmadgbhaaGreatDoorOpn
set_option linter.unusedVariables false
namespace Go.Proofs.YtbcajmkmadgbhaaGreatDoor
open Go.ChangeShapes Go.WideShapes Go.ChangeAt Go.RowKit Go.Deep
section
variable {H : Type} {enc : TypeId × Value → H} {W : World}
theorem list_of {α : Type} {P : Nat → α → Prop} : ∀ (n : Nat), (∀ i, i < n → ∃ x, P i x) → ∃ l : List α, l.length = n ∧ ∀ i x, l[i]? = some x → P i x
  | 0, _ => ⟨[], rfl, fun i x h => by simp at h⟩
  | n + 1, h => by
    obtain ⟨l, hl, hp⟩ := list_of n (fun i hi => h i (by omega))
    obtain ⟨x, hx⟩ := h n (by omega)
    refine ⟨l ++ [x], by simp [hl], fun i y hy => ?_⟩
    rcases Nat.lt_or_ge i n with h1 | h1
    · rw [List.getElem?_append_left (by omega)] at hy
      exact hp i y hy
    · have hi : i < (l ++ [x]).length := (List.getElem?_eq_some_iff.1 hy).1
      have e : i = n := by simp [hl] at hi; omega
      subst e
      rw [List.getElem?_append_right (by omega), hl, Nat.sub_self] at hy
      simp at hy
      subst hy; exact hx
theorem row_opened {P : Program} {α : Type} {k : Nat} {en : α → List Value} {Q : α → Prop} {t e : TypeId} {fuel : Nat} {A : Option Addr} {n cap : Nat} {d : DataW H} {p : List MemPlace} (ht : P.underlying t = some (.slice e)) (hk : P.cellsOf e = k) (hk0 : 0 < k)
    (h : DataW.trod enc P W 0 (fun _ => true) true fuel t [Value.slice A n cap] = some (d, p))
    (hel : ∀ (cs : List Value) (fu : Nat) (y : DataW H × List MemPlace), cs.length = k → DataW.trod enc P W 0 (fun _ => true) true fu e cs = some y → ∃ x, Q x ∧ ∀ j v, (en x)[j]? = some v → j < k ∧ cs[j]? = some v) :
    ∃ l : List α, n = l.length ∧ RowL k en W A l ∧ (∀ x ∈ l, Q x) := by
  obtain ⟨hn, _, _, hr⟩ := slice_each ht hk hk0 h
  rcases Nat.eq_zero_or_pos n with h0 | h0
  · exact ⟨[], by simp [h0], RowL.nil, fun x hx => by cases hx⟩
  · obtain ⟨b, off, rfl, hi⟩ := hr h0
    obtain ⟨l, hl, hp⟩ := list_of (P := fun i x => Q x ∧ ∀ j v, (en x)[j]? = some v → W.cell? ⟨b, off + i * k + j, none⟩ = some v) n (fun i hin => by
      obtain ⟨cs, fu, y, h1, h2, h3⟩ := hi i hin
      obtain ⟨x, hq, hx⟩ := hel cs fu y h1 h3
      exact ⟨x, hq, fun j v hj => by rw [h2 j (hx j v hj).1]; exact (hx j v hj).2⟩)
    refine ⟨l, hl.symm, ⟨fun _ => ⟨b, off, rfl, fun i x hx j v hj => (hp i x hx).2 j v hj⟩, by omega⟩, fun x hx => ?_⟩
    obtain ⟨i, hi⟩ := List.getElem?_of_mem hx
    exact (hp i x hi).1
theorem one_at {v w : Value} {j : Nat} (h : [v][j]? = some w) : j < 1 ∧ [v][j]? = some w := by
  refine ⟨?_, h⟩
  match j, h with
  | 0, _ => omega
  | j + 1, h => simp at h
theorem len_one {cs : List Value} (h : cs.length = 1) : ∃ v, cs = [v] := by
  match cs, h with
  | [v], _ => exact ⟨v, rfl⟩
theorem txt_elem {cs : List Value} {fu : Nat} {y : DataW H × List MemPlace} (hl : cs.length = 1) (h : DataW.trod enc Tryz.prog W 0 (fun _ => true) true fu 9 cs = some y) : ∃ x : List UInt8, x.length ≤ 9223372036854775807 ∧ ∀ j v, [strV x][j]? = some v → j < 1 ∧ cs[j]? = some v := by
  obtain ⟨v, rfl⟩ := len_one hl
  obtain ⟨s, rfl, hs⟩ := str_of Tryz.underlying9 h
  exact ⟨s, hs, fun j v hj => one_at hj⟩
theorem i64_elem {T : TypeId} (hT : Tryz.prog.underlying T = some (.int .i64)) {cs : List Value} {fu : Nat} {y : DataW H × List MemPlace} (hl : cs.length = 1) (h : DataW.trod enc Tryz.prog W 0 (fun _ => true) true fu T cs = some y) : ∃ x : Int, i64B x ∧ ∀ j v, [Value.int .i64 x][j]? = some v → j < 1 ∧ cs[j]? = some v := by
  obtain ⟨v, rfl⟩ := len_one hl
  obtain ⟨a, rfl, ha⟩ := int_of hT h
  exact ⟨a, bounds_i64 ha, fun j v hj => one_at hj⟩
theorem bounds_u8 {n : Int} (h : (Lit.int .u8 n).wf = true) : 0 ≤ n ∧ n < 256 := by
  simp [Lit.wf, IntKind.min, IntKind.max, IntKind.signed, IntKind.bits] at h
  omega
theorem acc_elem {cs : List Value} {fu : Nat} {y : DataW H × List MemPlace} (hl : cs.length = 2) (h : DataW.trod enc Tryz.prog W 0 (fun _ => true) true fu 134 cs = some y) :
    ∃ x : Nat × List UInt8, (x.1 < 256 ∧ x.2.length ≤ 9223372036854775807) ∧ ∀ j v, [Value.int .u8 (x.1 : Int), strV x.2][j]? = some v → j < 2 ∧ cs[j]? = some v := by
  obtain ⟨v0, n0, z0, c0, t0⟩ := field_one Tryz.underlying134 h 0 _ 0 rfl rfl (by kernel_rfl) (by omega)
  obtain ⟨v1, n1, z1, c1, t1⟩ := field_one Tryz.underlying134 h 1 _ 1 rfl rfl (by kernel_rfl) (by omega)
  obtain ⟨a, rfl, ha⟩ := int_of Tryz.underlying132 t0
  obtain ⟨s, rfl, hs⟩ := str_of Tryz.underlying9 t1
  obtain ⟨h1, h2⟩ := bounds_u8 ha
  obtain ⟨m, rfl⟩ : ∃ m : Nat, a = m := ⟨a.toNat, by omega⟩
  refine ⟨(m, s), ⟨by simp only; omega, hs⟩, fun j v hj => ?_⟩
  match j, hj with
  | 0, hj => cases hj; exact ⟨by omega, c0⟩
  | 1, hj => cases hj; exact ⟨by omega, c1⟩
  | j + 2, hj => simp at hj
theorem ins_elem {cs : List Value} {fu : Nat} {y : DataW H × List MemPlace} (hl : cs.length = 3) (h : DataW.trod enc Tryz.prog W 0 (fun _ => true) true fu 94 cs = some y) :
    ∃ x : InsD, InsB x ∧ ∀ j v, [Value.int .u8 (x.c : Int), .int .i64 x.a, .int .i64 x.b][j]? = some v → j < 3 ∧ cs[j]? = some v := by
  obtain ⟨v0, n0, z0, c0, t0⟩ := field_one Tryz.underlying94 h 0 _ 0 rfl rfl (by kernel_rfl) (by omega)
  obtain ⟨v1, n1, z1, c1, t1⟩ := field_one Tryz.underlying94 h 1 _ 1 rfl rfl (by kernel_rfl) (by omega)
  obtain ⟨v2, n2, z2, c2, t2⟩ := field_one Tryz.underlying94 h 2 _ 2 rfl rfl (by kernel_rfl) (by omega)
  obtain ⟨a, rfl, ha⟩ := int_of Tryz.underlying80 t0
  obtain ⟨b, rfl, hb⟩ := int_of Tryz.underlying3 t1
  obtain ⟨c, rfl, hc⟩ := int_of Tryz.underlying3 t2
  obtain ⟨h1, h2⟩ := bounds_u8 ha
  obtain ⟨m, rfl⟩ : ∃ m : Nat, a = m := ⟨a.toNat, by omega⟩
  refine ⟨⟨m, b, c⟩, ⟨by simp only; omega, bounds_i64 hb, bounds_i64 hc⟩, fun j v hj => ?_⟩
  match j, hj with
  | 0, hj => cases hj; exact ⟨by omega, c0⟩
  | 1, hj => cases hj; exact ⟨by omega, c1⟩
  | 2, hj => cases hj; exact ⟨by omega, c2⟩
  | j + 3, hj => simp at hj
theorem txts_opened {fuel : Nat} {v : Value} {z : DataW H × List MemPlace} (h : DataW.trod enc Tryz.prog W 0 (fun _ => true) true fuel 22 [v] = some z) : ∃ (A : Option Addr) (c : Nat) (l : List (List UInt8)), v = .slice A l.length c ∧ TxtL W A l ∧ TxtsB l := by
  obtain ⟨A, n, c, rfl⟩ := slice_of Tryz.underlying22 h
  obtain ⟨d, p⟩ := z
  obtain ⟨l, rfl, hr, hq⟩ := row_opened (k := 1) (en := fun s : List UInt8 => [strV s]) (Q := fun s => s.length ≤ 9223372036854775807) Tryz.underlying22 (by kernel_rfl) (by decide) h (fun cs fu y hl ht => txt_elem hl ht)
  exact ⟨A, c, l, rfl, hr, hq⟩
theorem lists_opened {fuel : Nat} {v : Value} {z : DataW H × List MemPlace} (h : DataW.trod enc Tryz.prog W 0 (fun _ => true) true fuel 24 [v] = some z) :
    ∃ (A : Option Addr) (c : Nat) (l : List (List (List UInt8))) (la : Nat → Option Addr) (lc : Nat → Nat), v = .slice A l.length c ∧ l.length ≤ 9223372036854775807 ∧ (∀ x ∈ l, TxtsB x) ∧
      (0 < l.length → ∃ b off, A = some ⟨b, off, none⟩ ∧ ∀ i x, l[i]? = some x → W.cell? ⟨b, off + i, none⟩ = some (.slice (la i) x.length (lc i)) ∧ TxtL W (la i) x) := by
  obtain ⟨A, n, c, rfl⟩ := slice_of Tryz.underlying24 h
  obtain ⟨d, p⟩ := z
  obtain ⟨l, rfl, hr, hq⟩ := row_opened (k := 1) (α := Option Addr × Nat × List (List UInt8)) (en := fun x => [Value.slice x.1 x.2.2.length x.2.1]) (Q := fun x => TxtL W x.1 x.2.2 ∧ TxtsB x.2.2) Tryz.underlying24 (by kernel_rfl) (by decide) h (fun cs fu y hl ht => by
    obtain ⟨v, rfl⟩ := len_one hl
    obtain ⟨A', c', l', rfl, h1, h2⟩ := txts_opened ht
    exact ⟨(A', c', l'), ⟨h1, h2⟩, fun j v hj => one_at hj⟩)
  refine ⟨A, c, l.map (·.2.2), fun i => (l.getD i (none, 0, [])).1, fun i => (l.getD i (none, 0, [])).2.1, by rw [List.length_map], by rw [List.length_map]; exact hr.n, fun x hx => ?_, fun hn => ?_⟩
  · obtain ⟨y, hy, rfl⟩ := List.mem_map.1 hx
    exact (hq y hy).2
  · rw [List.length_map] at hn
    obtain ⟨b, off, e, hrow⟩ := row_one (f := fun x : Option Addr × Nat × List (List UInt8) => Value.slice x.1 x.2.2.length x.2.1) hr hn
    refine ⟨b, off, e, fun i x hx => ?_⟩
    rw [List.getElem?_map] at hx
    cases hy : l[i]? with
    | none => rw [hy] at hx; cases hx
    | some y =>
      rw [hy] at hx
      have hxy : y.2.2 = x := by simpa using hx
      subst hxy
      have e : l.getD i (none, 0, []) = y := by rw [List.getD_eq_getElem?_getD, hy]; rfl
      show W.cell? ⟨b, off + i, none⟩ = some (.slice (l.getD i (none, 0, [])).1 y.2.2.length (l.getD i (none, 0, [])).2.1) ∧ TxtL W (l.getD i (none, 0, [])).1 y.2.2
      rw [e]
      exact ⟨hrow i y hy, (hq y (List.mem_of_getElem? hy)).1⟩
set_option maxHeartbeats 4000000 in
set_option maxRecDepth 100000 in
theorem program_opened {r : Reach} {b0 : Nat} {v : Value} {d : DataW H} {p : List MemPlace} (hv : Value.okWide Tryz.prog W r b0 28 v) (h : DataW.Trod enc Tryz.prog W 0 (fun _ => true) true 28 v d p) :
    ∃ (D : PrgD) (L : PLoc), v = prgV D L ∧ PrgM W D L ∧ PrgB D := by
  obtain ⟨cs, rfl, hsz⟩ := okWide_struct Tryz.underlying28 hv
  rw [show Tryz.prog.cellsOf 28 = 14 by kernel_rfl] at hsz
  obtain ⟨fuel, hf⟩ := h
  have hl : (Value.agg cs).cells.toList.length = 14 := by simpa [Value.cells] using hsz
  obtain ⟨v0, n0, z0, c0, t0⟩ := field_one Tryz.underlying28 hf 0 _ 0 rfl rfl (by kernel_rfl) (by omega)
  obtain ⟨v1, n1, z1, c1, t1⟩ := field_one Tryz.underlying28 hf 1 _ 1 rfl rfl (by kernel_rfl) (by omega)
  obtain ⟨v2, n2, z2, c2, t2⟩ := field_one Tryz.underlying28 hf 2 _ 2 rfl rfl (by kernel_rfl) (by omega)
  obtain ⟨v3, n3, z3, c3, t3⟩ := field_one Tryz.underlying28 hf 3 _ 3 rfl rfl (by kernel_rfl) (by omega)
  obtain ⟨v4, n4, z4, c4, t4⟩ := field_one Tryz.underlying28 hf 4 _ 4 rfl rfl (by kernel_rfl) (by omega)
  obtain ⟨v5, n5, z5, c5, t5⟩ := field_one Tryz.underlying28 hf 5 _ 5 rfl rfl (by kernel_rfl) (by omega)
  obtain ⟨v6, n6, z6, c6, t6⟩ := field_one Tryz.underlying28 hf 6 _ 6 rfl rfl (by kernel_rfl) (by omega)
  obtain ⟨v7, n7, z7, c7, t7⟩ := field_one Tryz.underlying28 hf 7 _ 7 rfl rfl (by kernel_rfl) (by omega)
  obtain ⟨v8, n8, z8, c8, t8⟩ := field_one Tryz.underlying28 hf 8 _ 8 rfl rfl (by kernel_rfl) (by omega)
  obtain ⟨v9, n9, z9, c9, t9⟩ := field_one Tryz.underlying28 hf 9 _ 9 rfl rfl (by kernel_rfl) (by omega)
  obtain ⟨v10, n10, z10, c10, t10⟩ := field_one Tryz.underlying28 hf 10 _ 10 rfl rfl (by kernel_rfl) (by omega)
  obtain ⟨v11, n11, z11, c11, t11⟩ := field_one Tryz.underlying28 hf 11 _ 11 rfl rfl (by kernel_rfl) (by omega)
  obtain ⟨v12, n12, z12, c12, t12⟩ := field_one Tryz.underlying28 hf 12 _ 12 rfl rfl (by kernel_rfl) (by omega)
  obtain ⟨v13, n13, z13, c13, t13⟩ := field_one Tryz.underlying28 hf 13 _ 13 rfl rfl (by kernel_rfl) (by omega)
  obtain ⟨s0, rfl, b0'⟩ := str_of Tryz.underlying9 t0
  obtain ⟨s1, rfl, b1'⟩ := str_of Tryz.underlying9 t1
  obtain ⟨i2, rfl, b2'⟩ := int_of Tryz.underlying2 t2
  obtain ⟨i3, rfl, b3'⟩ := int_of Tryz.underlying2 t3
  obtain ⟨A4, k4, l4, rfl, m4, q4⟩ := txts_opened t4
  obtain ⟨A5, n5', k5, rfl⟩ := slice_of Tryz.underlying23 t5
  obtain ⟨d5, p5⟩ := z5
  obtain ⟨l5, rfl, m5, q5⟩ := row_opened (k := 2) (en := fun a : Nat × List UInt8 => [Value.int .u8 (a.1 : Int), strV a.2]) (Q := fun a => a.1 < 256 ∧ a.2.length ≤ 9223372036854775807) Tryz.underlying23 (by kernel_rfl) (by decide) t5 (fun cs fu y hl ht => acc_elem hl ht)
  obtain ⟨A6, k6, l6, rfl, m6, q6⟩ := txts_opened t6
  obtain ⟨A7, k7, l7, rfl, m7, q7⟩ := txts_opened t7
  obtain ⟨A8, k8, l8, rfl, m8, q8⟩ := txts_opened t8
  obtain ⟨A9, k9, l9, la9, lc9, rfl, n9', q9, m9⟩ := lists_opened t9
  obtain ⟨A10, n10', k10, rfl⟩ := slice_of Tryz.underlying25 t10
  obtain ⟨d10, p10⟩ := z10
  obtain ⟨l10, rfl, m10, q10⟩ := row_opened (k := 1) (en := fun z : Int => [Value.int .i64 z]) (Q := i64B) Tryz.underlying25 (by kernel_rfl) (by decide) t10 (fun cs fu y hl ht => i64_elem Tryz.underlying2 hl ht)
  obtain ⟨A11, n11', k11, rfl⟩ := slice_of Tryz.underlying25 t11
  obtain ⟨d11, p11⟩ := z11
  obtain ⟨l11, rfl, m11, q11⟩ := row_opened (k := 1) (en := fun z : Int => [Value.int .i64 z]) (Q := i64B) Tryz.underlying25 (by kernel_rfl) (by decide) t11 (fun cs fu y hl ht => i64_elem Tryz.underlying2 hl ht)
  obtain ⟨A12, n12', k12, rfl⟩ := slice_of Tryz.underlying26 t12
  obtain ⟨d12, p12⟩ := z12
  obtain ⟨l12, rfl, m12, q12⟩ := row_opened (k := 3) (en := fun i : InsD => [Value.int .u8 (i.c : Int), .int .i64 i.a, .int .i64 i.b]) (Q := InsB) Tryz.underlying26 (by kernel_rfl) (by decide) t12 (fun cs fu y hl ht => ins_elem hl ht)
  obtain ⟨A13, n13', k13, rfl⟩ := slice_of Tryz.underlying26 t13
  obtain ⟨d13, p13⟩ := z13
  obtain ⟨l13, rfl, m13, q13⟩ := row_opened (k := 3) (en := fun i : InsD => [Value.int .u8 (i.c : Int), .int .i64 i.a, .int .i64 i.b]) (Q := InsB) Tryz.underlying26 (by kernel_rfl) (by decide) t13 (fun cs fu y hl ht => ins_elem hl ht)
  refine ⟨⟨s0, s1, i2, i3, l4, l5, l6, l7, l8, l9, l10, l11, l12, l13⟩, ⟨A4, k4, A5, k5, A6, k6, A7, k7, A8, k8, A9, k9, A10, k10, A11, k11, A12, k12, A13, k13, la9, lc9⟩, ?_, ⟨m4, m5, m6, m7, m8, m9, n9', m10, m11, m12, m13⟩, ⟨b0', b1', bounds_i64 b2', bounds_i64 b3', q4, q5, q6, q7, q8, q9, q12, q13⟩⟩
  show Value.agg cs = _
  congr 1
  apply Array.ext'
  apply List.ext_getElem?
  intro j
  change cs.toList[0]? = _ at c0
  change cs.toList[1]? = _ at c1
  change cs.toList[2]? = _ at c2
  change cs.toList[3]? = _ at c3
  change cs.toList[4]? = _ at c4
  change cs.toList[5]? = _ at c5
  change cs.toList[6]? = _ at c6
  change cs.toList[7]? = _ at c7
  change cs.toList[8]? = _ at c8
  change cs.toList[9]? = _ at c9
  change cs.toList[10]? = _ at c10
  change cs.toList[11]? = _ at c11
  change cs.toList[12]? = _ at c12
  change cs.toList[13]? = _ at c13
  match j with
  | 0 => exact c0
  | 1 => exact c1
  | 2 => exact c2
  | 3 => exact c3
  | 4 => exact c4
  | 5 => exact c5
  | 6 => exact c6
  | 7 => exact c7
  | 8 => exact c8
  | 9 => exact c9
  | 10 => exact c10
  | 11 => exact c11
  | 12 => exact c12
  | 13 => exact c13
  | j + 14 =>
    rw [List.getElem?_eq_none (by simp; omega), List.getElem?_eq_none (by simp)]
end
end Go.Proofs.YtbcajmkmadgbhaaGreatDoor
