/- Maps by a function: what stands at each key, whatever the elements are. -/
import Derived.Maps.OwnSet
import Derived.WideKeyEntry
import Derived.WalkKit
import Derived.RegionTactic
import Derived.Deep.RegionLaw
set_option linter.unusedSimpArgs false
set_option linter.unusedVariables false
namespace Go.Proofs.YtaolkcbbkanhbaaGreatDoor
open Go.RowKit
open Go.Maps (Keyed)
section
/-- an element, as it is -/
def rawElem (v : Value) : Option (DataW Value × List MemPlace) := some (.held v, [])
theorem rawElem_inv {v : Value} {z : DataW Value × List MemPlace} (h : rawElem v = some z) : z = (.held v, []) := (Option.some.inj h).symm
/-- block b is a map of at most n entries; f tells what stands at a key -/
structure MapAt (P : Program) (w : World) (k : TypeId) (b n : Nat) (f : Lit → Option Value) : Prop where
  own : ∃ D, w.ownsMap P k rawElem b n D ∧ ∀ l z, D.atKey l z = (match f l with | some v => .held v | none => z)
open Classical in
/-- .. with something else at one key -/
noncomputable def upd (f : Lit → Option Value) (k : Lit) (v : Option Value) : Lit → Option Value := fun l => if l = k then v else f l
theorem upd_same (f : Lit → Option Value) (k : Lit) (v : Option Value) : upd f k v k = v := by simp [upd]
theorem upd_other (f : Lit → Option Value) {k l : Lit} (v : Option Value) (h : l ≠ k) : upd f k v l = f l := by simp [upd, h]
variable {P : Program} {w w' : World} {k : TypeId} {b n : Nat} {f : Lit → Option Value}
theorem MapAt.lt (h : MapAt P w k b n f) : b < w.heap.size := let ⟨_, h, _⟩ := h.own; h.lt
theorem MapAt.block (h : MapAt P w k b n f) (hb : w'.heap[b]? = w.heap[b]?) : MapAt P w' k b n f := by
  obtain ⟨D, ⟨es, clock, h0, F, hs, hD⟩, hf⟩ := h.own
  exact ⟨D, ⟨es, clock, hb.trans h0, F, hs, hD⟩, hf⟩
theorem MapAt.grown {row : Option Nat} (h : MapAt P w k b n f) (hg : w.grownBy w' row) (hne : some b ≠ row) : MapAt P w' k b n f := h.block (hg.block b h.lt hne)
theorem MapAt.below (h : MapAt P w k b n f) (hb : Below w.heap.size w w') : MapAt P w' k b n f := h.block (hb.block b h.lt)
theorem MapAt.alloc (h : MapAt P w k b n f) (o : Obj) : MapAt P (w.alloc o) k b n f := h.grown (World.grownBy_alloc w o none) (by simp)
theorem MapAt.mono (h : MapAt P w k b n f) {n' : Nat} (hn : n ≤ n') : MapAt P w k b n' f := by
  obtain ⟨D, hD, hf⟩ := h.own
  exact ⟨D, hD.mono hn, hf⟩
theorem MapAt.same {g : Lit → Option Value} (h : MapAt P w k b n f) (hg : ∀ l, g l = f l) : MapAt P w k b n g := by rw [show g = f from funext hg]; exact h
theorem MapAt.made (P : Program) (w : World) (k : TypeId) : MapAt P (w.alloc (.map #[] 0)) k w.heap.size 0 (fun _ => none) :=
  ⟨.map [], World.ownsMap_made w P k rawElem, fun _ _ => rfl⟩
/-- block b is a map: no row of cells -/
theorem MapAt.isMap (h : MapAt P w k b n f) : ∃ es clock, w.heap[b]? = some (.map es clock) := by
  obtain ⟨D, ⟨es, clock, h0, _⟩, _⟩ := h.own
  exact ⟨es, clock, h0⟩
/-- m[k], with ok or without -/
theorem MapAt.look {t e : TypeId} (h : MapAt P w k b n f) (K : Keyed P k) (ht : P.underlying t = some (.map k e)) {z : Value} (hz : (zeroValue e).run P w = .ok z w) {key : Value} {kl : Lit} (hkey : keyOf P k key = some kl) :
    (Instr.lookup t (.map (some b)) key true).run P w = .ok (.tuple #[(f kl).getD z, .bool (f kl).isSome]) w ∧ (Instr.lookup t (.map (some b)) key false).run P w = .ok ((f kl).getD z) w := by
  obtain ⟨D, hD, hf⟩ := h.own
  have e1 : Maps.has D kl = (f kl).isSome := by
    cases hfk : f kl with
    | none => exact Maps.has_false_of_atKey (fun z => by rw [hf, hfk])
    | some v => exact Maps.has_true_of_atKey (y := .held v) (fun z => by rw [hf, hfk])
  have e2 : ∀ {v : Value} {ps : List MemPlace}, rawElem v = some (D.atKey kl (.held z), ps) → v = (f kl).getD z := fun {v ps} hv => by
    have := (Prod.mk.inj (rawElem_inv hv)).1
    rw [hf] at this
    cases hfk : f kl with
    | none => rw [hfk] at this; exact ((DataW.held.inj this)).symm
    | some u => rw [hfk] at this; exact ((DataW.held.inj this)).symm
  constructor
  · obtain ⟨v, ps, hrun, hv⟩ := hD.look_ok K ht hz (zd := .held z) (zp := []) rfl hkey
    rw [hrun, e1, e2 hv]
  · obtain ⟨v, ps, hrun, hv⟩ := hD.lookup K ht hz (zd := .held z) (zp := []) rfl hkey
    rw [hrun, e2 hv]
theorem has_key {K : Keyed P k} {key : Value} {kl : Lit} (hkey : keyOf P k key = some kl) : WideAt.IsKeyLit kl := K.key hkey
/-- m[k] = v -/
theorem MapAt.store {t e : TypeId} (h : MapAt P w k b n f) (K : Keyed P k) (ht : P.underlying t = some (.map k e)) (hn : n < maxLen) {key : Value} {kl : Lit} (v : Value) (hkey : keyOf P k key = some kl) :
    ∃ w', (Instr.mapUpdate t (.map (some b)) key v).run P w = .ok () w' ∧ MapAt P w' k b (n + 1) (upd f kl (some v)) ∧ w.mapTurned w' b := by
  obtain ⟨D, hD, hf⟩ := h.own
  obtain ⟨w', hrun, hown, ht'⟩ := hD.store K ht hn (val := v) (d := .held v) (ps := []) hkey rfl
  refine ⟨w', hrun, ⟨_, hown, fun l z => ?_⟩, ht'⟩
  by_cases e : l = kl
  · subst e
    rw [Maps.atKey_put_same hD.isMap (K.key hkey), upd_same]
  · rw [Maps.atKey_put_other e, upd_other _ _ e, hf]
/-- delete(m, k) -/
theorem MapAt.drop {t e : TypeId} (h : MapAt P w k b n f) (K : Keyed P k) (ht : P.underlying t = some (.map k e)) {key : Value} {kl : Lit} (hkey : keyOf P k key = some kl) (ty : TypeId) :
    ∃ w', (Builtin.delete_ #[t, k] ty #[.map (some b), key]).run P w = .ok (.tuple #[]) w' ∧ MapAt P w' k b n (upd f kl none) ∧ w.mapTurned w' b := by
  obtain ⟨D, hD, hf⟩ := h.own
  obtain ⟨w', hrun, hown, ht'⟩ := hD.drop K ht hkey ty
  refine ⟨w', hrun, ⟨_, hown, fun l z => ?_⟩, ht'⟩
  by_cases e : l = kl
  · subst e
    rw [Maps.atKey_del_same, upd_same]
  · rw [Maps.atKey_del_other e, upd_other _ _ e, hf]
/-- 'm[k] = v' in two steps: the entry, then the store into it -/
def EntAt (P : Program) (w : World) (k t : TypeId) (b n : Nat) (f : Lit → Option Value) (kl : Lit) (st : Int) : Prop :=
  ∀ (w2 : World) (val : Value), w2.heap[b]? = w.heap[b]? → ∃ w3, (Instr.entryStore t (.map (some b)) (goInt st) val).run P w2 = .ok () w3 ∧ MapAt P w3 k b (n + 1) (upd f kl (some val)) ∧ w2.grownBy w3 (some b)
theorem MapAt.entry {t e : TypeId} (h : MapAt P w k b n f) (K : WideMaps.KeyLaw P k) (ht : P.underlying t = some (.map k e)) (hn : n < maxLen) {z : Value} (hz : ∀ u : World, (zeroValue e).run P u = .ok z u) {key : Value} {kl : Lit} (hkey : keyOf P k key = some kl) :
    ∃ v0 st w1, (Instr.mapEntry t (.map (some b)) key).run P w = .ok (.tuple #[v0, goInt st]) w1 ∧ w.grownBy w1 (some b) ∧ EntAt P w1 k t b n f kl st := by
  have hst := fun v => h.store (Keyed.of_law K) ht hn v hkey
  obtain ⟨D, ⟨es, clock, hb, F, _, _⟩, _⟩ := h.own
  obtain ⟨v0, st, es1, clock1, hrun, _, hstore⟩ := WideElems.entry_then_store K ht hz hb F hkey
  refine ⟨v0, st, _, hrun, ⟨rfl, rfl, rfl, by simp [ChangeMaps.setBlock], fun i _ hi => ChangeMaps.heap_setBlock_other hb _ (fun e => hi (congrArg some e))⟩, fun w2 val hw2 => ?_⟩
  rw [ChangeMaps.heap_setBlock_same hb] at hw2
  obtain ⟨es', clock', h1, h2⟩ := hstore w2 val hw2
  obtain ⟨w', hr, hm, _⟩ := hst val
  rw [hr] at h2
  injection h2 with _ h2
  refine ⟨_, h1, hm.block ?_, ⟨rfl, rfl, rfl, by simp [ChangeMaps.setBlock], fun i _ hi => ChangeMaps.heap_setBlock_other hw2 _ (fun e => hi (congrArg some e))⟩⟩
  rw [h2, ChangeMaps.heap_setBlock_same hw2, ChangeMaps.heap_setBlock_same hb]
/-- the entry of a key that is there: nothing turns -/
theorem MapAt.entry_here {t e : TypeId} (h : MapAt P w k b n f) (K : WideMaps.KeyLaw P k) (ht : P.underlying t = some (.map k e)) (hn : n < maxLen) {z : Value} (hz : ∀ u : World, (zeroValue e).run P u = .ok z u) {key : Value} {kl : Lit} (hkey : keyOf P k key = some kl) (hf : f kl ≠ none) :
    ∃ v0 st, (∀ u : World, u.heap[b]? = w.heap[b]? → (Instr.mapEntry t (.map (some b)) key).run P u = .ok (.tuple #[v0, goInt st]) u) ∧ EntAt P w k t b n f kl st := by
  have hst := fun v => h.store (Keyed.of_law K) ht hn v hkey
  obtain ⟨D, ⟨es, clock, hb, F, hs, hD⟩, hfD⟩ := h.own
  have hin : ∃ e0 ∈ es.toList, e0.key = key := by
    rcases Maps.fit_look (z := z) true (Keyed.of_law K) ht (hz w) hb F hkey with ⟨_, _, hat⟩ | ⟨e0, y, hm, hk, _⟩
    · exfalso
      rw [← hD] at hat
      apply hf
      have h1 := hfD kl .nil
      have h2 := hfD kl (.lit (.bool true))
      rw [hat] at h1 h2
      cases hfk : f kl with
      | none => rfl
      | some v => rw [hfk] at h1; cases h1
    · exact ⟨e0, hm, hk⟩
  obtain ⟨s1, s2, _⟩ := F.stamped
  rcases K.find w hkey es.toList F.keys with ⟨_, h2⟩ | ⟨j, e0, h1, h2, h3⟩
  · obtain ⟨e0, hm, hk⟩ := hin
    exact absurd hk (h2 e0 hm)
  · have hj : es[j]? = some e0 := by simpa using h2
    have hsame : es.modify j (fun e => { e with key := key }) = es := by
      apply Array.ext'
      rw [Array.toList_modify, ChangeMaps.modify_eq_set _ _ _ _ h2]
      have : ({ e0 with key := key } : MapEntry) = e0 := by rw [← h3]
      rw [this]
      exact WideElems.set_self _ _ _ h2
    have hset : ∀ u : World, u.heap[b]? = w.heap[b]? → ChangeMaps.setBlock u b (.map es clock) = u := fun u hu => by
      have hu' := hu.trans hb
      have e : u.heap.setIfInBounds b (.map es clock) = u.heap := by
        apply Array.ext_getElem?
        intro i
        by_cases hi : i = b
        · subst hi
          exact (ChangeMaps.heap_setBlock_same hu' _).trans hu'.symm
        · exact ChangeMaps.heap_setBlock_other hu' _ hi
      unfold ChangeMaps.setBlock
      rw [e]
    have hrun : ∀ u : World, u.heap[b]? = w.heap[b]? → (Instr.mapEntry t (.map (some b)) key).run P u = .ok (.tuple #[e0.val, goInt e0.born]) u := fun u hu => by
      have hu' := hu.trans hb
      have h1u : (Instr.findKey k key es.toList).run P u = .ok (some (j, e0.val)) u := by
        rcases K.find u hkey es.toList F.keys with ⟨_, g2⟩ | ⟨j', e0', g1, g2, g3⟩
        · exact absurd h3 (g2 e0 (List.mem_of_getElem? h2))
        · have : j' = j := by
            rcases Nat.decEq j' j with hne | he
            · exact absurd (g3.trans h3.symm) (WideElems.other_key F h2 g2 hne)
            · exact he
          subst this
          rw [h2] at g2
          cases g2
          exact g1
      simp [Instr.mapEntry, run_underlying ht, MapKept.run_getObj_map hu', K.check u false hkey, h1u, hj, h3, K.stays u hkey, hsame, MapKept.run_setObj_map _ hu', Result.andThen]
      exact hset u hu
    refine ⟨e0.val, e0.born, hrun, fun w2 val hw2 => ?_⟩
    have hw2' := hw2.trans hb
    have hidx : es.findIdx? (fun e => ((e.born : Nat) : Int) == ((e0.born : Nat) : Int)) = some j := by
      rw [WideElems.findIdx_arr]
      exact WideElems.findIdx_born s2 h2
    have hmod : es.modify j (fun e => { e with val := val }) = es.modify j (fun e' => { e' with key := key, val := val }) := by
      apply Array.ext'
      rw [Array.toList_modify, Array.toList_modify, ChangeMaps.modify_eq_set _ _ _ _ h2, ChangeMaps.modify_eq_set _ _ _ _ h2, ← h3]
    have hup : (Instr.mapUpdate t (.map (some b)) key val).run P w = .ok () (ChangeMaps.setBlock w b (.map (es.modify j (fun e' => { e' with key := key, val := val })) clock)) := by
      simp [Instr.mapUpdate, run_underlying ht, MapKept.run_getObj_map hb, K.check w false hkey, h1, hj, h3, K.stays w hkey, MapKept.run_setObj_map _ hb, Result.andThen, ChangeMaps.setBlock]
    obtain ⟨w', hr, hm, _⟩ := hst val
    rw [hr] at hup
    injection hup with _ hup
    refine ⟨ChangeMaps.setBlock w2 b (.map (es.modify j (fun e' => { e' with key := key, val := val })) clock), ?_, hm.block ?_, ⟨rfl, rfl, rfl, by simp [ChangeMaps.setBlock], fun i _ hi => ChangeMaps.heap_setBlock_other hw2' _ (fun e => hi (congrArg some e))⟩⟩
    · simp [Instr.entryStore, MapKept.run_getObj_map hw2', asInt, asIntOf, goInt, hidx, hmod, MapKept.run_setObj_map _ hw2', Result.andThen, ChangeMaps.setBlock]
    · rw [hup, ChangeMaps.heap_setBlock_same hw2', ChangeMaps.heap_setBlock_same hb]
end
section
variable {P : Program} (w : World) {ops : Array Oper} {rest : List Oper} {o : Oper} {a : Act} {Q : Exit → Act → World → Prop}
theorem wpList_entry_at (hg : o.guard = none) (m x : Operand) (t : TypeId) (hop : o.op = Op.mapEntry t m x) (k e : TypeId) (K : WideMaps.KeyLaw P k) (ht : P.underlying t = some (.map k e)) {z : Value} (hz : ∀ u : World, (zeroValue e).run P u = .ok z u) (b n : Nat) (f : Lit → Option Value)
    (hm : a.eval m = .map (some b)) (h : MapAt P w k b n f) (hn : n < maxLen) (key : Value) (kl : Lit) (hx : a.eval x = key) (hkey : keyOf P k key = some kl)
    (hK : ∀ v0 (st : Int) w1, w.grownBy w1 (some b) → EntAt P w1 k t b n f kl st → wpList P ops Q rest (a.put o.dst (.tuple #[v0, goInt st])) w1) :
    wpList P ops Q (o :: rest) a w := by
  refine wpList_plain hg fun K' hK' => ?_
  obtain ⟨v0, st, w1, hrun, hgr, hen⟩ := h.entry K ht hn hz hkey
  unfold Oper.wp
  simp [execOp, hop, hm, hx, hrun, Result.andThen]
  exact hK' _ _ (hK v0 st w1 hgr hen)
theorem wpList_entryStore_at (hg : o.guard = none) (m s x : Operand) (t : TypeId) (hop : o.op = Op.entryStore t m s x) (k : TypeId) (b n : Nat) (f : Lit → Option Value) (kl : Lit) (st : Int) (w1 : World)
    (hm : a.eval m = .map (some b)) (h : EntAt P w1 k t b n f kl st) (hb : w.heap[b]? = w1.heap[b]?) (hs : a.eval s = goInt st) (val : Value) (hx : a.eval x = val)
    (hK : ∀ w3, MapAt P w3 k b (n + 1) (upd f kl (some val)) → w.grownBy w3 (some b) → wpList P ops Q rest (a.put o.dst undef) w3) :
    wpList P ops Q (o :: rest) a w := by
  refine wpList_plain hg fun K' hK' => ?_
  obtain ⟨w3, hrun, hmp, hgr⟩ := h w val hb
  unfold Oper.wp
  simp [execOp, hop, hm, hs, hx, hrun, Result.andThen]
  exact hK' _ _ (hK w3 hmp hgr)
/-- 'v, ok := m[k]' -/
theorem wpList_look_ok_at (hg : o.guard = none) (m x : Operand) (t : TypeId) (hop : o.op = Op.lookup t m x true) (k e : TypeId) (K : Keyed P k) (ht : P.underlying t = some (.map k e)) {z : Value} (hz : (zeroValue e).run P w = .ok z w) (b n : Nat) (f : Lit → Option Value)
    (hm : a.eval m = .map (some b)) (h : MapAt P w k b n f) (key : Value) (kl : Lit) (hx : a.eval x = key) (hkey : keyOf P k key = some kl)
    (hK : wpList P ops Q rest (a.put o.dst (.tuple #[(f kl).getD z, .bool (f kl).isSome])) w) :
    wpList P ops Q (o :: rest) a w := by
  refine wpList_plain hg fun K' hK' => ?_
  have hrun := (h.look K ht hz hkey).1
  unfold Oper.wp
  simp [execOp, hop, hm, hx, hrun, Result.andThen]
  exact hK' _ _ hK
/-- 'm[k]' -/
theorem wpList_look_at (hg : o.guard = none) (m x : Operand) (t : TypeId) (hop : o.op = Op.lookup t m x false) (k e : TypeId) (K : Keyed P k) (ht : P.underlying t = some (.map k e)) {z : Value} (hz : (zeroValue e).run P w = .ok z w) (b n : Nat) (f : Lit → Option Value)
    (hm : a.eval m = .map (some b)) (h : MapAt P w k b n f) (key : Value) (kl : Lit) (hx : a.eval x = key) (hkey : keyOf P k key = some kl)
    (hK : wpList P ops Q rest (a.put o.dst ((f kl).getD z)) w) :
    wpList P ops Q (o :: rest) a w := by
  refine wpList_plain hg fun K' hK' => ?_
  have hrun := (h.look K ht hz hkey).2
  unfold Oper.wp
  simp [execOp, hop, hm, hx, hrun, Result.andThen]
  exact hK' _ _ hK
/-- 'm[k] = v' -/
theorem wpList_store_at (hg : o.guard = none) (m x v : Operand) (t : TypeId) (hop : o.op = Op.mapUpdate t m x v) (k e : TypeId) (K : Keyed P k) (ht : P.underlying t = some (.map k e)) (b n : Nat) (f : Lit → Option Value)
    (hm : a.eval m = .map (some b)) (h : MapAt P w k b n f) (hn : n < maxLen) (key val : Value) (kl : Lit) (hx : a.eval x = key) (hv : a.eval v = val) (hkey : keyOf P k key = some kl)
    (hK : ∀ w', MapAt P w' k b (n + 1) (upd f kl (some val)) → w.mapTurned w' b → wpList P ops Q rest (a.put o.dst undef) w') :
    wpList P ops Q (o :: rest) a w := by
  refine wpList_plain hg fun K' hK' => ?_
  obtain ⟨w', hrun, r1, r2⟩ := h.store K ht hn val hkey
  unfold Oper.wp
  simp [execOp, hop, hm, hx, hv, hrun, Result.andThen]
  exact hK' _ _ (hK w' r1 r2)
/-- 'delete(m, k)' -/
theorem wpList_drop_at (hg : o.guard = none) (m x : Operand) (t k : TypeId) (hop : o.op = Op.call { callee := Callee.builtin Builtin.delete, args := #[m, x], argTypes := #[t, k] }) (e : TypeId) (K : Keyed P k) (ht : P.underlying t = some (.map k e)) (b n : Nat) (f : Lit → Option Value)
    (hm : a.eval m = .map (some b)) (h : MapAt P w k b n f) (key : Value) (kl : Lit) (hx : a.eval x = key) (hkey : keyOf P k key = some kl)
    (hK : ∀ w', MapAt P w' k b n (upd f kl none) → w.mapTurned w' b → wpList P ops Q rest (a.put o.dst (.tuple #[])) w') :
    wpList P ops Q (o :: rest) a w := by
  refine wpList_plain hg fun K' hK' => ?_
  obtain ⟨w', hrun, r1, r2⟩ := h.drop K ht hkey o.type
  unfold Oper.wp
  simp [execOp, hop, resolve, invoke, builtin, hm, hx, hrun, Result.andThen]
  exact hK' _ _ (hK w' r1 r2)
end
end Go.Proofs.YtaolkcbbkanhbaaGreatDoor
