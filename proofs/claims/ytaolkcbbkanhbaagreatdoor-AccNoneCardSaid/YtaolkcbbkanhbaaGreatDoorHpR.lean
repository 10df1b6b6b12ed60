/- A heap in memory: its four cells, its row of entries, its map of places. -/
import Derived.Test.YtaolkcbbkanhbaaGreatDoorBas
import Derived.Test.YtaolkcbbkanhbaaGreatDoorMap
import Derived.Test.YtaolkcbbkanhbaaGreatDoorHpB
set_option linter.unusedSimpArgs false
set_option linter.unusedVariables false
namespace Go.Proofs.YtaolkcbbkanhbaaGreatDoor
open Go.RowKit
open Go.Maps (Keyed)
/-- the cells of entries -/
def entC (L : List Ent) : List Value := L.flatMap fun e => [.int .i64 e.1, strV e.2]
theorem entC_cons (e : Ent) (L : List Ent) : entC (e :: L) = .int .i64 e.1 :: strV e.2 :: entC L := by simp [entC]
theorem entC_app (L M : List Ent) : entC (L ++ M) = entC L ++ entC M := by simp [entC]
theorem entC_len (L : List Ent) : (entC L).length = L.length * 2 := by
  induction L with
  | nil => rfl
  | cons e r ih => rw [entC_cons]; simp only [List.length_cons, ih]; omega
theorem entC_get (L : List Ent) (i : Nat) (h : i < L.length) : (entC L)[i * 2]? = some (.int .i64 (atE L i).1) ∧ (entC L)[i * 2 + 1]? = some (strV (atE L i).2) := by
  induction L generalizing i with
  | nil => simp at h
  | cons e r ih =>
    rw [entC_cons]
    cases i with
    | zero => exact ⟨by simp [atE], by simp [atE]⟩
    | succ i =>
      have := ih i (by simpa using h)
      rw [show (i + 1) * 2 = i * 2 + 1 + 1 by omega]
      exact ⟨by simpa [atE] using this.1, by simpa [atE] using this.2⟩
theorem entC_set (L : List Ent) (i : Nat) (e : Ent) : ((entC L).set (i * 2) (.int .i64 e.1)).set (i * 2 + 1) (strV e.2) = entC (L.set i e) := by
  induction L generalizing i with
  | nil => simp [entC]
  | cons p r ih =>
    cases i with
    | zero => rw [List.set_cons_zero, entC_cons, entC_cons]; rfl
    | succ i =>
      rw [List.set_cons_succ, entC_cons, entC_cons, ← ih i, show (i + 1) * 2 = i * 2 + 1 + 1 by omega]
      rfl
theorem entC_take (L : List Ent) (k : Nat) : (entC L).take (k * 2) = entC (L.take k) := by
  induction L generalizing k with
  | nil => simp [entC]
  | cons e r ih =>
    cases k with
    | zero => simp [entC]
    | succ k => rw [show (k + 1) * 2 = k * 2 + 1 + 1 by omega, entC_cons, List.take_succ_cons, List.take_succ_cons, ih, List.take_succ_cons, entC_cons]
theorem entC_one (L : List Ent) : ∀ u ∈ entC L, u.oneCell' = true := by
  induction L with
  | nil => intro u hu; cases hu
  | cons e r ih =>
    rw [entC_cons]
    intro u hu
    rcases List.mem_cons.1 hu with rfl | hu
    · rfl
    · rcases List.mem_cons.1 hu with rfl | hu
      · rfl
      · exact ih u hu
/-- the block of a slice that has room -/
def rowB : Value → Option Nat
  | .slice (some a) _ (_ + 1) => some a.block
  | _ => none
/-- a slice of entries that is the holder's own (or has none, and no room) -/
def RowE (w : World) (v : Value) (L : List Ent) : Prop :=
  (∃ g cap, 0 < cap ∧ v = .slice (some ⟨g, 0, none⟩) L.length cap ∧ w.ownsRow 0 117 2 (.slice (some ⟨g, 0, none⟩) L.length cap) L.length (entC L)) ∨ (L = [] ∧ ∃ A, v = .slice A 0 0)
theorem rowB_pos {g n cap : Nat} (h : 0 < cap) : rowB (.slice (some ⟨g, 0, none⟩) n cap) = some g := by cases cap with | zero => omega | succ c => rfl
theorem own_cap {w : World} {g n cap : Nat} {xs : List Value} {e : TypeId} {size : Nat} (h : w.ownsRow 0 e size (.slice (some ⟨g, 0, none⟩) n cap) n xs) : n ≤ cap ∧ cap ≤ maxLen ∧ g < w.heap.size := by
  obtain ⟨_, ⟨hv, _⟩ | ⟨M, c, cur, hv, _, hg, hc, hm, _⟩⟩ := h
  · cases hv
  · simp only [Value.slice.injEq, Option.some.injEq, Addr.mk.injEq, and_true, true_and] at hv
    obtain ⟨rfl, rfl⟩ := hv
    exact ⟨hc, hm, block_lt hg⟩
theorem RowE.mk {w : World} {g n cap : Nat} {L : List Ent} (h : w.ownsRow 0 117 2 (.slice (some ⟨g, 0, none⟩) n cap) n (entC L)) (hn : n = L.length) (h0 : 0 < cap) : RowE w (.slice (some ⟨g, 0, none⟩) n cap) L := by
  subst hn
  exact Or.inl ⟨g, cap, h0, rfl, h⟩
/-- the blocks of a heap -/
def foot (hb mb : Nat) (v : Value) : List Nat := hb :: mb :: (rowB v).toList
/-- what the map of places says -/
def placesF (L : List Ent) : Lit → Option Value
  | .string s => (findE L s).map (fun i : Nat => Value.int .i64 (i : Int))
  | _ => none
/-- the function that tells who is ahead -/
def aheadV (mo : Bool) : Value := if mo then .func (.func 40) #[] #[] else .func (.func 39) #[] #[]
theorem lawS : Keyed Tryz.prog 9 := Maps.string_keyed Tryz.underlying9
theorem keyS {s : List UInt8} (h : s.length ≤ 9223372036854775807) : keyOf Tryz.prog 9 (strV s) = some (.string s) := by
  have := WideMaps.keyOf_string_mk (P := Tryz.prog) Tryz.underlying9 (s := ⟨s.toArray⟩) (by unfold maxLen; simpa [ByteArray.size] using h)
  simpa using this
/-- all names are texts -/
def Texts (L : List Ent) : Prop := ∀ e ∈ L, e.2.length ≤ 9223372036854775807
theorem Texts.at {L : List Ent} (h : Texts L) (i : Nat) : (atE L i).2.length ≤ 9223372036854775807 := by
  unfold atE
  rw [List.getD_eq_getElem?_getD]
  cases he : L[i]? with
  | none => simp
  | some e => exact h e (List.mem_of_getElem? he)
structure HeapAt (w : World) (hb mb : Nat) (v : Value) (L : List Ent) (mo : Bool) (mv : Nat) : Prop where
  blk : w.heap[hb]? = some (.cells #[v, .map (some mb), aheadV mo, .int .i64 mv] 115 (0, 0))
  row : RowE w v L
  map : MapAt Tryz.prog w 9 mb L.length (placesF L)
  two : NoTwice L
  txt : Texts L
theorem RowE.kept {w w' : World} {v : Value} {L : List Ent} {S : List Nat} (h : RowE w v L) (ht : Turned S w w') (hS : ∀ x ∈ S, rowB v ≠ some x) : RowE w' v L := by
  rcases h with ⟨g, cap, h0, rfl, h1, h2 | ⟨g', cap', cur, hv, hb, hg, r⟩⟩ | h
  · exact absurd h2.1 (by simp)
  · left
    simp only [Value.slice.injEq, Option.some.injEq, Addr.mk.injEq, and_true, true_and] at hv
    obtain ⟨rfl, rfl⟩ := hv
    exact ⟨g, cap, h0, rfl, h1, Or.inr ⟨g, cap, cur, rfl, hb, by rw [ht.block g (block_lt hg) (fun e => hS g e (rowB_pos h0))]; exact hg, r⟩⟩
  · exact Or.inr h
theorem HeapAt.kept {w w' : World} {hb mb : Nat} {v : Value} {L : List Ent} {mo : Bool} {mv : Nat} {S : List Nat} (h : HeapAt w hb mb v L mo mv) (ht : Turned S w w') (hS : ∀ x ∈ S, x ∉ foot hb mb v) : HeapAt w' hb mb v L mo mv where
  blk := by rw [ht.block hb (block_lt h.blk) (fun e => hS hb e (by simp [foot]))]; exact h.blk
  row := h.row.kept ht (fun x hx e => hS x hx (by simp [foot, e]))
  map := h.map.block (ht.block mb h.map.lt (fun e => hS mb e (by simp [foot])))
  two := h.two
  txt := h.txt
theorem HeapAt.below {w w' : World} {hb mb : Nat} {v : Value} {L : List Ent} {mo : Bool} {mv : Nat} (h : HeapAt w hb mb v L mo mv) (hb' : Below w.heap.size w w') : HeapAt w' hb mb v L mo mv :=
  h.kept (S := []) (Turned.ofBelow hb') (fun x hx => by cases hx)
/-- a slice with something in it lies in a row -/
theorem RowE.some {w : World} {v : Value} {L : List Ent} (h : RowE w v L) (hL : 0 < L.length) : ∃ g cap, v = .slice (some ⟨g, 0, none⟩) L.length cap ∧ w.ownsRow 0 117 2 (.slice (some ⟨g, 0, none⟩) L.length cap) L.length (entC L) := by
  rcases h with ⟨g, cap, _, hv, ho⟩ | ⟨h, _⟩
  · exact ⟨g, cap, hv, ho⟩
  · rw [h] at hL; simp at hL
theorem RowE.form {w : World} {v : Value} {L : List Ent} (h : RowE w v L) : ∃ A cap, v = .slice A L.length cap ∧ L.length ≤ cap := by
  rcases h with ⟨g, cap, _, hv, ho⟩ | ⟨h, A, e⟩
  · exact ⟨_, cap, hv, (own_cap ho).1⟩
  · exact ⟨A, 0, by rw [h]; exact e, by rw [h]; exact Nat.le_refl _⟩
/-- the cells of a heap's entries -/
theorem ent_cells {w : World} {g cap n : Nat} {L : List Ent} (h : w.ownsRow 0 117 2 (.slice (some ⟨g, 0, none⟩) n cap) n (entC L)) (hn : n = L.length) {i : Nat} (hi : i < L.length) :
    w.cell? ⟨g, i * 2, none⟩ = some (.int .i64 (atE L i).1) ∧ w.cell? ⟨g, i * 2 + 1, none⟩ = some (strV (atE L i).2) := by
  subst hn
  have := entC_get L i hi
  exact ⟨by rw [h.cellAt _ (by omega)]; exact this.1, by rw [h.cellAt _ (by omega)]; exact this.2⟩
/-- the map of places, of just the keys that it has -/
theorem MapAt.tight {w : World} {mb n : Nat} {f : Lit → Option Value} {ks : List Lit} (h : MapAt Tryz.prog w 9 mb n f) (hk : ∀ l, f l ≠ none → l ∈ ks) : MapAt Tryz.prog w 9 mb ks.length f := by
  obtain ⟨D, hD, hf⟩ := h.own
  obtain ⟨es', rfl, hp⟩ := hD.tidy lawS
  have hsz := hD.size_le
  refine ⟨_, ?_, hf⟩
  obtain ⟨es, clock, h0, F, hs, hD'⟩ := hD
  refine ⟨es, clock, h0, F, ?_, hD'⟩
  have e1 : es'.length = es.size := by
    have := congrArg (fun d => match d with | DataW.map l => l.length | _ => 0) hD'
    simp only at this
    rw [this, length_read]
  rw [← e1]
  refine keys_le hp (fun p hp' => hk _ (fun e => ?_))
  have h1 := hf p.1 .nil
  have h2 := hf p.1 (.lit (.bool true))
  rw [e] at h1 h2
  have hkey : WideAt.IsKeyLit p.1 := by
    have : (DataW.map es') = .map ((es.toList.map (WideElems.rg Tryz.prog 9 rawElem)).foldr DataW.insert []) := hD'
    injection this with this
    have hm : p ∈ es.toList.map (WideElems.rg Tryz.prog 9 rawElem) := by
      rw [this] at hp'
      exact (WideShapes.sorted_perm _).mem_iff.1 hp'
    obtain ⟨v, hv⟩ := Maps.fit_keys F p hm
    exact lawS.key hv
  have hfind : ∃ q, es'.find? (fun q => q.1.sameKey p.1) = some q := by
    have : (es'.find? (fun q => q.1.sameKey p.1)).isSome = true := List.find?_isSome.2 ⟨p, hp', WideAt.sameKey_self hkey⟩
    exact Option.isSome_iff_exists.1 this
  obtain ⟨q, hq⟩ := hfind
  have e2 : q.2 = .nil := by simpa [DataW.atKey, hq] using h1
  have e3 : q.2 = .lit (.bool true) := by simpa [DataW.atKey, hq] using h2
  rw [e2] at e3
  cases e3
theorem places_keys {L : List Ent} : ∀ l, placesF L l ≠ none → l ∈ L.map fun e => Lit.string e.2 := by
  intro l hl
  cases l with
  | string s =>
    change Option.map _ _ ≠ none at hl
    cases hf : findE L s with
    | none => rw [hf] at hl; exact absurd rfl hl
    | some i =>
      obtain ⟨h1, h2⟩ := findE_some hf
      exact List.mem_map.2 ⟨atE L i, atE_mem h1, by rw [h2]⟩
  | _ => exact absurd rfl hl
/-- two entries have changed places: the map says so -/
theorem places_sw {L : List Ent} {i k : Nat} (hN : NoTwice L) (hi : i < L.length) (hk : k < L.length) (l : Lit) :
    upd (upd (placesF L) (.string (atE (swE L i k) i).2) (some (.int .i64 i))) (.string (atE (swE L i k) k).2) (some (.int .i64 k)) l = placesF (swE L i k) l := by
  have hN' : NoTwice (swE L i k) := hN.perm (swE_perm hi hk)
  have hl : (swE L i k).length = L.length := swE_len _ _ _
  by_cases h1 : l = .string (atE (swE L i k) k).2
  · subst h1
    rw [upd_same]
    show _ = Option.map _ _
    rw [findE_at hN' (by rw [hl]; exact hk)]
    rfl
  · rw [upd_other _ _ h1]
    by_cases h2 : l = .string (atE (swE L i k) i).2
    · subst h2
      rw [upd_same]
      show _ = Option.map _ _
      rw [findE_at hN' (by rw [hl]; exact hi)]
      rfl
    · rw [upd_other _ _ h2]
      cases l with
      | string s =>
        show Option.map _ _ = Option.map _ _
        congr 1
        have n1 : s ≠ (atE (swE L i k) k).2 := fun e => h1 (by rw [e])
        have n2 : s ≠ (atE (swE L i k) i).2 := fun e => h2 (by rw [e])
        have a1 : atE (swE L i k) k = atE L i := by rw [atE_sw hi hk, if_pos rfl]
        have a2 : atE (swE L i k) i = atE L k := by
          rw [atE_sw hi hk]
          by_cases e : i = k
          · rw [if_pos e, e]
          · rw [if_neg e, if_pos rfl]
        rw [a1] at n1
        rw [a2] at n2
        apply Option.ext
        intro j
        rw [findE_iff hN, findE_iff hN', hl]
        constructor
        · rintro ⟨hj, e⟩
          refine ⟨hj, ?_⟩
          rw [atE_sw hi hk, if_neg (by rintro rfl; exact n2 e.symm), if_neg (by rintro rfl; exact n1 e.symm)]
          exact e
        · rintro ⟨hj, e⟩
          refine ⟨hj, ?_⟩
          rw [atE_sw hi hk] at e
          by_cases e1 : j = k
          · rw [if_pos e1] at e; exact absurd e.symm n1
          · rw [if_neg e1] at e
            by_cases e2 : j = i
            · rw [if_pos e2] at e; exact absurd e.symm n2
            · rw [if_neg e2] at e; exact e
      | _ => rfl
end Go.Proofs.YtaolkcbbkanhbaaGreatDoor
