/- An accumulator in memory: its map of names; how long a map is; timeName, name. Condition: the table of powers of ten is laid. -/
import Derived.Test.YtaolkcbbkanhbaaGreatDoorAcA
import Derived.Test.YtaolkcbbkanhbaaGreatDoorHpG
import Derived.Test.YtaolkcbbkanhbaaGreatDoorHpH
import Derived.Test.YtaolkcbbkanhbaaGreatDoorShelf
import Derived.Lib.LaidTab
import Derived.Laws.Concat
set_option linter.unusedSimpArgs false
set_option linter.unusedVariables false
namespace Go.Proofs.YtaolkcbbkanhbaaGreatDoor
open Go.RowKit
open Go.Maps (Keyed)
/-- strconv's table of powers of ten holds what the text lays in it -/
def TabP (w : World) : Prop := Lib.TabIs Tryz.prog w "internal/strconv.uint64pow10" .u64 Lib.pow10Tab
theorem TabP.below {w w' : World} (h : TabP w) (hb : Below w.heap.size w w') : TabP w' := by
  unfold TabP Lib.TabIs World.var? at h ⊢
  have e : Tryz.prog.globalNamed "internal/strconv.uint64pow10" = some 1 := by kernel_rfl
  rw [e] at h ⊢
  simp only [Option.bind_some] at h ⊢
  have hg : 1 < w.heap.size := by
    cases hh : w.heap[1]? with
    | none => rw [hh] at h; cases h
    | some o => exact (Array.getElem?_eq_some_iff.1 hh).1
  rw [hb.block _ hg]; exact h
theorem below_grow (w : World) (k : Nat) (os : Array Obj) : Below w.heap.size w (Sort.grow (w.drewN k) os) := below_regrown w _ os
set_option maxHeartbeats 2000000 in
theorem tname_any (t : Int) (w : World) (ht : -9223372036854775808 ≤ t ∧ t ≤ 9223372036854775807) (hT : TabP w) : Calls Tryz.prog 41 #[.int .i64 t] w fun e w' => e = .returned (strV (Lib.itoa t)) ∧ Below w.heap.size w w' := by
  have k := Tryz.strconv_FormatInt_10 t ht.1 ht.2 w hT
  go_enter Tryz.func41, Tryz.ntmps41
  go_wp2_with fail
  refine k.mono ?_
  rintro e w' ⟨rfl, q, os, rfl⟩
  go_wp2
  go_ret
  exact ⟨rfl, below_grow w q os⟩
set_option maxHeartbeats 2000000 in
theorem name_any (s : List UInt8) (t : Int) (w : World) (hs : s.length ≤ 1048576) (ht : -9223372036854775808 ≤ t ∧ t ≤ 9223372036854775807) (hT : TabP w) : Calls Tryz.prog 26 #[strV s, .int .i64 t] w fun e w' => e = .returned (strV (nameL s t)) ∧ Below w.heap.size w w' := by
  have hl := itoa_len ht.1 ht.2
  have k := tname_any t w ht hT
  unfold nameL
  generalize Lib.itoa t = x at *
  obtain ⟨y, hy⟩ : ∃ y, x ++ [32] = y := ⟨_, rfl⟩
  have hyl : y.length ≤ 21 := by rw [← hy]; simp; omega
  have k1 := fun w => run_string_add_lists (P := Tryz.prog) w x [32] (by omega) (by simp)
  rw [hy] at k1 ⊢
  have k2 := fun w => run_string_add_lists (P := Tryz.prog) w y s (by omega) (by omega)
  clear hy hl hyl
  go_enter Tryz.func26, Tryz.ntmps26
  go_wp2_with fail
  refine k.mono ?_
  rintro e w' ⟨rfl, hb⟩
  go_wp2
  go_ret
  exact ⟨rfl, hb⟩
/-! how long a map is -/
theorem MapAt.len {P : Program} {w : World} {k : TypeId} {b n : Nat} {f : Lit → Option Value} {t e : TypeId} (h : MapAt P w k b n f) (K : Keyed P k) (ht : P.underlying t = some (.map k e)) {ks : List Lit} (hn : ks.Nodup) (hks : ∀ l, f l ≠ none ↔ l ∈ ks) (ty : TypeId) :
    (Builtin.len_ #[t] ty #[.map (some b)]).run P w = .ok (.int .i64 ks.length) w := by
  obtain ⟨D, hD, hf⟩ := h.own
  rw [hD.len ht ty]
  obtain ⟨es', rfl, hp⟩ := hD.tidy K
  rw [Maps.size_eq]
  have hkey : ∀ p ∈ es', WideAt.IsKeyLit p.1 := by
    obtain ⟨es, clock, h0, F, hs, hD'⟩ := hD
    injection hD' with hD'
    intro p hm
    rw [hD'] at hm
    obtain ⟨v, hv⟩ := Maps.fit_keys F p ((WideShapes.sorted_perm _).mem_iff.1 hm)
    exact K.key hv
  have h1 : es'.length ≤ ks.length := keys_le hp (fun p hp' => (hks p.1).1 (fun e => by
    have h1 := hf p.1 .nil
    have h2 := hf p.1 (.lit (.bool true))
    rw [e] at h1 h2
    have hfind : ∃ q, es'.find? (fun q => q.1.sameKey p.1) = some q := by
      have : (es'.find? (fun q => q.1.sameKey p.1)).isSome = true := List.find?_isSome.2 ⟨p, hp', WideAt.sameKey_self (hkey p hp')⟩
      exact Option.isSome_iff_exists.1 this
    obtain ⟨q, hq⟩ := hfind
    have e2 : q.2 = .nil := by simpa [DataW.atKey, hq] using h1
    have e3 : q.2 = .lit (.bool true) := by simpa [DataW.atKey, hq] using h2
    rw [e2] at e3
    cases e3))
  have h2 : ks.length ≤ es'.length := by
    have elen : (es'.map Prod.fst).length = es'.length := by simp
    refine Nat.le_trans ?_ (Nat.le_of_eq elen)
    refine List.Nodup.length_le_of_subset hn (fun l hl => ?_)
    have h1 := hf l .nil
    have h2 := hf l (.lit (.bool true))
    have hne := (hks l).2 hl
    cases hfl : f l with
    | none => exact absurd hfl hne
    | some v =>
      rw [hfl] at h1 h2
      cases hq : es'.find? (fun q => q.1.sameKey l) with
      | none =>
        simp [DataW.atKey, hq] at h1
      | some q =>
        have hs := List.find?_some hq
        have hqm := List.mem_of_find?_eq_some hq
        refine List.mem_map.2 ⟨q, hqm, ?_⟩
        rcases Classical.em (q.1 = l) with e | e
        · exact e
        · rw [Maps.sameKey_ne e] at hs; cases hs
  rw [show es'.length = ks.length from Nat.le_antisymm h1 h2]
/-! the numbers of an accumulator -/
def heldV (o : NumI) : Value := .agg #[strV o.1, .int .i64 o.2.1, .int .i64 o.2.2]
def inF (L : List NumI) : Lit → Option Value
  | .string k => (L.find? fun o => nameL o.1 o.2.1 == k).map heldV
  | _ => none
theorem find_name (L : List NumI) (s : List UInt8) (t : Int) : (L.find? fun o => nameL o.1 o.2.1 == nameL s t) = L.find? (isAt s t) := by
  congr 1
  funext o
  exact name_is o s t
theorem inF_at (L : List NumI) (s : List UInt8) (t : Int) : inF L (.string (nameL s t)) = (L.find? (isAt s t)).map heldV := by
  show Option.map heldV (L.find? fun o => nameL o.1 o.2.1 == nameL s t) = _
  rw [find_name]
theorem inF_none {L : List NumI} {s : List UInt8} {t : Int} (h : hasN L s t = false) : inF L (.string (nameL s t)) = none := by
  rw [inF_at]
  have : L.find? (isAt s t) = none := by
    rw [List.find?_eq_none]
    intro o ho
    have := hasN_false h o ho
    rw [← isAt_iff] at this
    exact this
  rw [this]; rfl
theorem inF_some {L : List NumI} {s : List UInt8} {t : Int} (h : hasN L s t = true) : ∃ n, (s, t, n) ∈ L ∧ inF L (.string (nameL s t)) = some (heldV (s, t, n)) := by
  obtain ⟨i, n, _, h2, h3, _⟩ := find_at h
  exact ⟨n, List.mem_of_getElem? h2, by rw [inF_at, h3]; rfl⟩
theorem inF_add {L : List NumI} {s : List UInt8} {t n : Int} (h : hasN L s t = false) (l : Lit) : upd (inF L) (.string (nameL s t)) (some (heldV (s, t, n))) l = inF (L ++ [(s, t, n)]) l := by
  by_cases hl : l = .string (nameL s t)
  · subst hl
    rw [upd_same]
    show _ = Option.map heldV ((L ++ [(s, t, n)]).find? fun o => nameL o.1 o.2.1 == nameL s t)
    rw [find_name, List.find?_append]
    have : L.find? (isAt s t) = none := by
      rw [List.find?_eq_none]
      intro o ho
      have := hasN_false h o ho
      rw [← isAt_iff] at this
      exact this
    rw [this]
    simp [isAt]
  · rw [upd_other _ _ hl]
    cases l with
    | string k =>
      show Option.map heldV _ = Option.map heldV _
      rw [List.find?_append]
      have hk : (nameL s t == k) = false := by
        rw [beq_eq_false_iff_ne]
        intro e; exact hl (by rw [e])
      simp [hk]
    | _ => rfl
theorem inF_rem (L : List NumI) (s : List UInt8) (t : Int) (l : Lit) : upd (inF L) (.string (nameL s t)) none l = inF (remN L s t) l := by
  by_cases hl : l = .string (nameL s t)
  · subst hl
    rw [upd_same, inF_at]
    have : (remN L s t).find? (isAt s t) = none := by
      rw [List.find?_eq_none]
      intro o ho
      have := (mem_remN.1 ho).2
      rw [← isAt_iff] at this
      exact this
    rw [this]; rfl
  · rw [upd_other _ _ hl]
    cases l with
    | string k =>
      show Option.map heldV _ = Option.map heldV _
      congr 1
      have hk : ∀ o : NumI, isAt s t o = true → (nameL o.1 o.2.1 == k) = false := fun o ho => by
        obtain ⟨a, b⟩ := isAt_iff.1 ho
        rw [beq_eq_false_iff_ne, a, b]
        intro e; exact hl (by rw [e])
      unfold remN
      induction L with
      | nil => rfl
      | cons o r ih =>
        by_cases ho : isAt s t o = true
        · rw [List.filter_cons_of_neg (by simp [ho]), List.find?_cons_of_neg (by rw [hk o ho]; simp)]
          exact ih
        · rw [List.filter_cons_of_pos (by simpa using ho)]
          cases hx : (nameL o.1 o.2.1 == k) with
          | true => simp [List.find?_cons, hx]
          | false => simpa [List.find?_cons, hx] using ih
    | _ => rfl
def keysN (L : List NumI) : List Lit := L.map fun o => .string (nameL o.1 o.2.1)
theorem keysN_nodup {L : List NumI} (h : NoTwo L) : (keysN L).Nodup := by
  unfold keysN List.Nodup
  rw [List.pairwise_map]
  refine List.Pairwise.imp (fun {a b} hab e => hab ?_) h
  injection e with e
  exact nameL_inj e
theorem keysN_iff (L : List NumI) (l : Lit) : inF L l ≠ none ↔ l ∈ keysN L := by
  unfold keysN
  rw [List.mem_map]
  cases l with
  | string k =>
    show Option.map heldV (L.find? fun o => nameL o.1 o.2.1 == k) ≠ none ↔ _
    constructor
    · intro h
      cases hf : L.find? (fun o => nameL o.1 o.2.1 == k) with
      | none => rw [hf] at h; exact absurd rfl h
      | some o => exact ⟨o, List.mem_of_find?_eq_some hf, by rw [show nameL o.1 o.2.1 = k by simpa using List.find?_some hf]⟩
    · rintro ⟨o, ho, e⟩ h
      injection e with e
      have : L.find? (fun o => nameL o.1 o.2.1 == k) = none := by
        cases hf : L.find? (fun o => nameL o.1 o.2.1 == k) with
        | none => rfl
        | some q => rw [hf] at h; cases h
      rw [List.find?_eq_none] at this
      exact this o ho (by simpa using e)
  | _ => simp [inF]
/-- what all accumulators have -/
structure AccC (w : World) (ab mb f : Nat) (k : Value) (L : List NumI) : Prop where
  acc : w.heap[ab]? = some (.cells #[.int .u8 f, .map (some mb), k] 71 (0, 0))
  map : MapAt Tryz.prog w 9 mb L.length (inF L)
  two : NoTwo L
  fit : ∀ o ∈ L, o.1.length ≤ 1048576 ∧ -9223372036854775808 ≤ o.2.1 ∧ o.2.1 ≤ 9223372036854775807
theorem AccC.kept {w w' : World} {ab mb f : Nat} {k : Value} {L : List NumI} {S : List Nat} (h : AccC w ab mb f k L) (ht : Turned S w w') (ha : ab ∉ S) (hm : mb ∉ S) : AccC w' ab mb f k L where
  acc := by rw [ht.block ab (block_lt h.acc) ha]; exact h.acc
  map := h.map.block (ht.block mb h.map.lt hm)
  two := h.two
  fit := h.fit
theorem AccC.below {w w' : World} {ab mb f : Nat} {k : Value} {L : List NumI} (h : AccC w ab mb f k L) (hb : Below w.heap.size w w') : AccC w' ab mb f k L := h.kept (S := []) (Turned.ofBelow hb) (by simp) (by simp)
theorem AccC.ne {w : World} {ab mb f : Nat} {k : Value} {L : List NumI} (h : AccC w ab mb f k L) : ab ≠ mb := by
  obtain ⟨es, clock, hm⟩ := h.map.isMap
  rintro rfl
  have := h.acc
  rw [hm] at this
  cases this
theorem zeroH (w : World) : (zeroValue 90).run Tryz.prog w = .ok (.agg #[.string ⟨#[]⟩, .int .i64 0, .int .i64 0]) w := by kernel_rfl
theorem keyN {s : List UInt8} {t : Int} (hs : s.length ≤ 1048576) (h0 : -9223372036854775808 ≤ t) (h1 : t ≤ 9223372036854775807) : keyOf Tryz.prog 9 (strV (nameL s t)) = some (.string (nameL s t)) := keyS (by have := nameL_len (s := s) h0 h1; omega)
theorem AccC.look {w : World} {ab mb f : Nat} {k : Value} {L : List NumI} (h : AccC w ab mb f k L) {s : List UInt8} {t : Int} (hs : s.length ≤ 1048576) (h0 : -9223372036854775808 ≤ t) (h1 : t ≤ 9223372036854775807) :
    (Instr.lookup 67 (.map (some mb)) (strV (nameL s t)) true).run Tryz.prog w = .ok (.tuple #[((inF L (.string (nameL s t))).getD (.agg #[.string ⟨#[]⟩, .int .i64 0, .int .i64 0])), .bool (inF L (.string (nameL s t))).isSome]) w :=
  (h.map.look lawS Tryz.underlying67 (zeroH w) (keyN hs h0 h1)).1
theorem AccC.len {w : World} {ab mb f : Nat} {k : Value} {L : List NumI} (h : AccC w ab mb f k L) (ty : TypeId) : (Builtin.len_ #[67] ty #[.map (some mb)]).run Tryz.prog w = .ok (.int .i64 L.length) w := by
  have := h.map.len lawS Tryz.underlying67 (keysN_nodup h.two) (keysN_iff L) ty
  rw [this]; simp [keysN]
set_option maxHeartbeats 2000000 in
theorem alen_any (ab mb f : Nat) (k : Value) (L : List NumI) (w : World) (h : AccC w ab mb f k L) : Calls Tryz.prog 16 #[.pointer (some ⟨ab, 0, none⟩)] w fun e w' => e = .returned (.int .i64 L.length) ∧ w = w' := by
  have c1 := cells_at h.acc 1 _ rfl
  have hl := h.len
  generalize L.length = N at *
  clear h
  go_enter Tryz.func16, Tryz.ntmps16
  go_wp2
  go_ret
  exact ⟨rfl, rfl⟩
set_option maxHeartbeats 2000000 in
theorem alen_nil (w : World) : Calls Tryz.prog 16 #[.pointer none] w fun e w' => e = .returned (.int .i64 0) ∧ w = w' := by
  go_enter Tryz.func16, Tryz.ntmps16
  go_wp2
  go_ret
  exact ⟨rfl, rfl⟩
end Go.Proofs.YtaolkcbbkanhbaaGreatDoor
