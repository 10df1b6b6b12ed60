/- errors.As of an error with a place (api.At over a number), at a target of each of this program's three types of errors. Condition: errors.errorType holds the handle of the type error. -/
import Derived.Test.YtbaopcpmmdmomaaGreatDoorSame
set_option linter.unusedSimpArgs false
set_option linter.unusedVariables false
namespace Go.Proofs.YtbaopcpmmdmomaaGreatDoor
open Go.RowKit Go.Extern.Stop Go.Stop Go.Extern
/-- an error with a place -/
abbrev atV (p c : Int) : Value := .iface 183 (.agg #[.int .i64 p, errV c])
/-- the document's error with a place -/
abbrev badAt (p c : Int) : Value := .agg #[.int .i64 c, .int .i64 p, .int .i64 0, .bool true, .bool false]
theorem A_set (T B : Nat) (p : Int) (d o1 o2 : Value) (W : World) (hd : d.oneCell' = true) (hb0 : W.cell? ⟨B, 0, none⟩ = some (.int .i64 p)) (hb1 : W.cell? ⟨B, 1, none⟩ = some d) (ht0 : W.cell? ⟨T, 0, none⟩ = some o1) (ht1 : W.cell? ⟨T, 1, none⟩ = some o2) (hf : ∀ i, W.frozen? ⟨T, i, none⟩ = false) :
    (ReflectliteValue.set #[.agg #[.pointer (some ⟨3, 183, none⟩), .pointer (some ⟨T, 0, none⟩), .int .u64 409], .agg #[.pointer (some ⟨3, 183, none⟩), .pointer (some ⟨B, 0, none⟩), .int .u64 153]]).run Tryz.prog W = .ok (.tuple #[]) ((W.setCell ⟨T, 0, none⟩ (.int .i64 p)).setCell ⟨T, 1, none⟩ d) := by
  have h2 : (W.setCell ⟨T, 0, none⟩ (.int .i64 p)).cell? ⟨T, 1, none⟩ = some o2 := by
    rw [World.cell?_setCell_other]; exact ht1
    intro e; injection e; omega
  have hf0 := hf 0
  have hf1 := hf 1
  have s2 := A_size W
  rw [rls]
  simp only [Sem.run_bind, A_partsA, A_partsT, Result.andThen]
  simp [ReflectliteValue.flagAddr, loadVar, isAgg, underlying, Tryz.underlying183, A_size, loadCells, loadCellsFrom, Addr.add, hb0, hb1, Result.andThen, A_direct, storeVar, Value.cells, storeCells]
  rw [run_store Tryz.prog W ⟨T, 0, none⟩ _ _ (by rfl)]
  simp [ht0, hf0, Result.andThen]
  rw [run_store Tryz.prog _ ⟨T, 1, none⟩ _ _ hd]
  simp [h2, hf1]

set_option maxHeartbeats 4000000 in
set_option maxRecDepth 100000 in
theorem as_AE_x (p c : Int) (t : Addr) (old : Value) (w : World) (hG : Glob w) (ht0 : w.cell? t = some old) (hf0 : w.frozen? t = false) :
    Calls Tryz.prog 67 #[atV p c, .iface 104 (.pointer (some t))] w fun ev w' => ev = .returned (.bool true) ∧ w' = (((((w.alloc (.cells #[.pointer (some t)] 104)).alloc (.cells #[.pointer (some ⟨3, 104, none⟩), .pointer (some ⟨w.heap.size, 0, none⟩), .int .u64 150] 189)).alloc (.cells #[.pointer (some ⟨3, 104, none⟩), .pointer (some ⟨w.heap.size, 0, none⟩), .int .u64 150] 189)).alloc (.cells #[.int .i64 p, errV c] 183)).alloc (.cells #[.int .i64 c] 87)).setCell t (.int .i64 c) := by
  have hVO := @run_callFunc_extern Tryz.prog 74 _ (fun args => ReflectliteValue.unpack (args.getD 0 (.tuple #[]))) Tryz.func74 (by kernel_rfl) (by kernel_rfl) (by kernel_rfl) (by kernel_rfl)
  have hTY := @run_callFunc_extern Tryz.prog 75 _ (ReflectliteValue.methodAny (ReflectliteValue.valueError "reflectlite.Value.Type" 0) (fun t _ _ _ => ReflectliteType.toType t)) Tryz.func75 (by kernel_rfl) (by kernel_rfl) (by kernel_rfl) (by kernel_rfl)
  have hNIL := @run_callFunc_extern Tryz.prog 76 _ (ReflectliteValue.method (ReflectliteValue.valueError "reflectlite.Value.IsNil" 0) ReflectliteValue.isNil) Tryz.func76 (by kernel_rfl) (by kernel_rfl) (by kernel_rfl) (by kernel_rfl)
  have hKIND := @run_callFunc_extern Tryz.prog 104 _ (ReflectliteType.abiMethod fun t => do pure (.int .u8 (← Rtype.kind t))) Tryz.func104 (by kernel_rfl) (by kernel_rfl) (by kernel_rfl) (by kernel_rfl)
  have hRE := @run_callFunc_extern Tryz.prog 117 _ (ReflectliteType.method ReflectliteType.elem) Tryz.func117 (by kernel_rfl) (by kernel_rfl) (by kernel_rfl) (by kernel_rfl)
  have hRI := @run_callFunc_extern Tryz.prog 118 _ (ReflectliteType.relation "Implements" ReflectliteType.implements_) Tryz.func118 (by kernel_rfl) (by kernel_rfl) (by kernel_rfl) (by kernel_rfl)
  have hTOF := @run_callFunc_extern Tryz.prog 84 _ ReflectliteType.typeOf Tryz.func84 (by kernel_rfl) (by kernel_rfl) (by kernel_rfl) (by kernel_rfl)
  have hRA := @run_callFunc_extern Tryz.prog 115 _ (ReflectliteType.relation "AssignableTo" ReflectliteType.assignableTo) Tryz.func115 (by kernel_rfl) (by kernel_rfl) (by kernel_rfl) (by kernel_rfl)
  have hEL := @run_callFunc_extern Tryz.prog 85 _ (ReflectliteValue.method (ReflectliteValue.valueError "reflectlite.Value.Elem" 0) ReflectliteValue.elem) Tryz.func85 (by kernel_rfl) (by kernel_rfl) (by kernel_rfl) (by kernel_rfl)
  have hSET := @run_callFunc_extern Tryz.prog 86 _ ReflectliteValue.set Tryz.func86 (by kernel_rfl) (by kernel_rfl) (by kernel_rfl) (by kernel_rfl)
  have tO := E_typeOf; have mK := m_Kind; have mE := m_Elem; have mI := m_Impl; have mA := m_Assn
  have tO2 := A_typeOf; have aa := asn_EE; have aa2 := asn_AE
  have f6 := E_valueOfP; have f7 := E_typeP; have k1 := E_kindP; have k2 := E_kindT; have e1 := E_elemP; have i1 := E_impl
  have n8 := E_isNil ⟨w.heap.size, 0, none⟩ t ((w.alloc (.cells #[.pointer (some t)] 104)).alloc (.cells #[.pointer (some ⟨3, 104, none⟩), .pointer (some ⟨w.heap.size, 0, none⟩), .int .u64 150] 189)) (by simp)
  have hlt := hG.lt
  have hg2 : ((w.alloc (.cells #[.pointer (some t)] 104)).alloc (.cells #[.pointer (some ⟨3, 104, none⟩), .pointer (some ⟨w.heap.size, 0, none⟩), .int .u64 150] 189)).cell? ⟨0, 0, none⟩ = some (.iface 202 (.agg #[.pointer (some ⟨3, 62, none⟩)])) := by
    rw [World.cell?_alloc_lt _ _ ⟨0, 0, none⟩ (by first | (simp; done) | (simp; omega)), World.cell?_alloc_lt _ _ ⟨0, 0, none⟩ hlt]; exact hG
  have htl := cell_lt ht0
  have v25 := E_valueOf
  have el := E_elemV ⟨w.heap.size, 0, none⟩ t ((((w.alloc (.cells #[.pointer (some t)] 104)).alloc (.cells #[.pointer (some ⟨3, 104, none⟩), .pointer (some ⟨w.heap.size, 0, none⟩), .int .u64 150] 189)).alloc (.cells #[.pointer (some ⟨3, 104, none⟩), .pointer (some ⟨w.heap.size, 0, none⟩), .int .u64 150] 189)).alloc (.cells #[.int .i64 p, errV c] 183)) (by rw [World.cell?_alloc_lt _ _ ⟨w.heap.size, 0, none⟩ (by simp; omega), World.cell?_alloc_lt _ _ ⟨w.heap.size, 0, none⟩ (by simp; omega)]; simp)
  have st := E_set t ⟨w.heap.size + 1 + 1 + 1 + 1, 0, none⟩ c old (((((w.alloc (.cells #[.pointer (some t)] 104)).alloc (.cells #[.pointer (some ⟨3, 104, none⟩), .pointer (some ⟨w.heap.size, 0, none⟩), .int .u64 150] 189)).alloc (.cells #[.pointer (some ⟨3, 104, none⟩), .pointer (some ⟨w.heap.size, 0, none⟩), .int .u64 150] 189)).alloc (.cells #[.int .i64 p, errV c] 183)).alloc (.cells #[.int .i64 c] 87))
    (by rw [World.cell?_alloc_at _ _ _ _ (by simp)]; rfl)
    (by rw [World.cell?_alloc_lt _ _ t (by simp; omega), World.cell?_alloc_lt _ _ t (by simp; omega), World.cell?_alloc_lt _ _ t (by simp; omega), World.cell?_alloc_lt _ _ t (by simp; omega), World.cell?_alloc_lt _ _ t htl]; exact ht0)
    (by rw [World.frozen?_alloc_old _ _ t (by simp; omega), World.frozen?_alloc_old _ _ t (by simp; omega), World.frozen?_alloc_old _ _ t (by simp; omega), World.frozen?_alloc_old _ _ t (by simp; omega), World.frozen?_alloc_old _ _ t (Nat.ne_of_lt htl)]; exact hf0)
  have u1 := E_As; have u2 := E_Un; have u3 := E_Us
  have y1 := A_As; have y2 := A_Un; have y3 := A_mUn
  clear hG
  go_enter Tryz.func67, Tryz.ntmps67
  go_wp2
  refine wp_loop_rounds 2 ?_
  rw [rounds_succ]
  go_wp2
  rw [rounds_succ]
  go_wp2
  go_ret
  exact ⟨rfl, rfl⟩
set_option maxHeartbeats 4000000 in
set_option maxRecDepth 100000 in
theorem as_AA_x (p c : Int) (t : Nat) (old o2 : Value) (w : World) (hG : Glob w) (ht0 : w.cell? ⟨t, 0, none⟩ = some old) (ht1 : w.cell? ⟨t, 1, none⟩ = some o2) (hf0 : ∀ i, w.frozen? ⟨t, i, none⟩ = false) :
    Calls Tryz.prog 67 #[atV p c, .iface 184 (.pointer (some ⟨t, 0, none⟩))] w fun ev w' => ev = .returned (.bool true) ∧ w' = (((((w.alloc (.cells #[.pointer (some ⟨t, 0, none⟩)] 184)).alloc (.cells #[.pointer (some ⟨3, 184, none⟩), .pointer (some ⟨w.heap.size, 0, none⟩), .int .u64 150] 189)).alloc (.cells #[.pointer (some ⟨3, 184, none⟩), .pointer (some ⟨w.heap.size, 0, none⟩), .int .u64 150] 189)).alloc (.cells #[.int .i64 p, errV c] 183)).setCell ⟨t, 0, none⟩ (.int .i64 p)).setCell ⟨t, 1, none⟩ (errV c) := by
  have hVO := @run_callFunc_extern Tryz.prog 74 _ (fun args => ReflectliteValue.unpack (args.getD 0 (.tuple #[]))) Tryz.func74 (by kernel_rfl) (by kernel_rfl) (by kernel_rfl) (by kernel_rfl)
  have hTY := @run_callFunc_extern Tryz.prog 75 _ (ReflectliteValue.methodAny (ReflectliteValue.valueError "reflectlite.Value.Type" 0) (fun t _ _ _ => ReflectliteType.toType t)) Tryz.func75 (by kernel_rfl) (by kernel_rfl) (by kernel_rfl) (by kernel_rfl)
  have hNIL := @run_callFunc_extern Tryz.prog 76 _ (ReflectliteValue.method (ReflectliteValue.valueError "reflectlite.Value.IsNil" 0) ReflectliteValue.isNil) Tryz.func76 (by kernel_rfl) (by kernel_rfl) (by kernel_rfl) (by kernel_rfl)
  have hKIND := @run_callFunc_extern Tryz.prog 104 _ (ReflectliteType.abiMethod fun t => do pure (.int .u8 (← Rtype.kind t))) Tryz.func104 (by kernel_rfl) (by kernel_rfl) (by kernel_rfl) (by kernel_rfl)
  have hRE := @run_callFunc_extern Tryz.prog 117 _ (ReflectliteType.method ReflectliteType.elem) Tryz.func117 (by kernel_rfl) (by kernel_rfl) (by kernel_rfl) (by kernel_rfl)
  have hRI := @run_callFunc_extern Tryz.prog 118 _ (ReflectliteType.relation "Implements" ReflectliteType.implements_) Tryz.func118 (by kernel_rfl) (by kernel_rfl) (by kernel_rfl) (by kernel_rfl)
  have hTOF := @run_callFunc_extern Tryz.prog 84 _ ReflectliteType.typeOf Tryz.func84 (by kernel_rfl) (by kernel_rfl) (by kernel_rfl) (by kernel_rfl)
  have hRA := @run_callFunc_extern Tryz.prog 115 _ (ReflectliteType.relation "AssignableTo" ReflectliteType.assignableTo) Tryz.func115 (by kernel_rfl) (by kernel_rfl) (by kernel_rfl) (by kernel_rfl)
  have hEL := @run_callFunc_extern Tryz.prog 85 _ (ReflectliteValue.method (ReflectliteValue.valueError "reflectlite.Value.Elem" 0) ReflectliteValue.elem) Tryz.func85 (by kernel_rfl) (by kernel_rfl) (by kernel_rfl) (by kernel_rfl)
  have hSET := @run_callFunc_extern Tryz.prog 86 _ ReflectliteValue.set Tryz.func86 (by kernel_rfl) (by kernel_rfl) (by kernel_rfl) (by kernel_rfl)
  have tO := E_typeOf; have mK := m_Kind; have mE := m_Elem; have mI := m_Impl; have mA := m_Assn
  have tO2 := A_typeOf; have aa := asn_EA; have aa2 := asn_AA
  have f6 := A_valueOfP; have f7 := A_typeP; have k1 := A_kindP; have k2 := A_kindT; have e1 := A_elemP; have i1 := A_impl
  have n8 := A_isNil ⟨w.heap.size, 0, none⟩ ⟨t, 0, none⟩ ((w.alloc (.cells #[.pointer (some ⟨t, 0, none⟩)] 184)).alloc (.cells #[.pointer (some ⟨3, 184, none⟩), .pointer (some ⟨w.heap.size, 0, none⟩), .int .u64 150] 189)) (by simp)
  have hlt := hG.lt
  have hg2 : ((w.alloc (.cells #[.pointer (some ⟨t, 0, none⟩)] 184)).alloc (.cells #[.pointer (some ⟨3, 184, none⟩), .pointer (some ⟨w.heap.size, 0, none⟩), .int .u64 150] 189)).cell? ⟨0, 0, none⟩ = some (.iface 202 (.agg #[.pointer (some ⟨3, 62, none⟩)])) := by
    rw [World.cell?_alloc_lt _ _ ⟨0, 0, none⟩ (by first | (simp; done) | (simp; omega)), World.cell?_alloc_lt _ _ ⟨0, 0, none⟩ hlt]; exact hG
  have htl : t < w.heap.size := cell_lt ht0
  have v25 := A_valueOf
  have el := A_elemV ⟨w.heap.size, 0, none⟩ ⟨t, 0, none⟩ (((w.alloc (.cells #[.pointer (some ⟨t, 0, none⟩)] 184)).alloc (.cells #[.pointer (some ⟨3, 184, none⟩), .pointer (some ⟨w.heap.size, 0, none⟩), .int .u64 150] 189)).alloc (.cells #[.pointer (some ⟨3, 184, none⟩), .pointer (some ⟨w.heap.size, 0, none⟩), .int .u64 150] 189)) (by rw [World.cell?_alloc_lt _ _ ⟨w.heap.size, 0, none⟩ (by simp; omega)]; simp)
  have st := A_set t (w.heap.size + 1 + 1 + 1) p (errV c) old o2 ((((w.alloc (.cells #[.pointer (some ⟨t, 0, none⟩)] 184)).alloc (.cells #[.pointer (some ⟨3, 184, none⟩), .pointer (some ⟨w.heap.size, 0, none⟩), .int .u64 150] 189)).alloc (.cells #[.pointer (some ⟨3, 184, none⟩), .pointer (some ⟨w.heap.size, 0, none⟩), .int .u64 150] 189)).alloc (.cells #[.int .i64 p, errV c] 183)) rfl
    (by rw [World.cell?_alloc_at _ _ _ _ (by simp)]; rfl)
    (by rw [World.cell?_alloc_at _ _ _ _ (by simp)]; rfl)
    (by (repeat rw [World.cell?_alloc_lt _ _ _ (by simp only [heap_push, Array.size_push]; omega)]); exact ht0)
    (by (repeat rw [World.cell?_alloc_lt _ _ _ (by simp only [heap_push, Array.size_push]; omega)]); exact ht1)
    (fun i => by (repeat rw [World.frozen?_alloc_old _ _ _ (by simp only [heap_push, Array.size_push]; omega)]); exact hf0 i)
  have u1 := E_As; have u2 := E_Un; have u3 := E_Us
  have y1 := A_As; have y2 := A_Un; have y3 := A_mUn
  clear hG
  go_enter Tryz.func67, Tryz.ntmps67
  go_wp2
  refine wp_loop_rounds 1 ?_
  rw [rounds_succ]
  go_wp2
  go_ret
  exact ⟨rfl, rfl⟩
theorem as_AE (p c : Int) (t : Addr) (old : Value) (w : World) (hG : Glob w) (ht0 : w.cell? t = some old) (hf0 : w.frozen? t = false) :
    Calls Tryz.prog 67 #[atV p c, .iface 104 (.pointer (some t))] w fun ev w' => ev = .returned (.bool true) ∧ w'.cell? t = some (.int .i64 c) ∧ w.grownBy w' (some t.block) := by
  refine (as_AE_x p c t old w hG ht0 hf0).mono ?_
  rintro e w' ⟨rfl, rfl⟩
  have htl := cell_lt ht0
  refine ⟨rfl, ?_, grown_setCell (grown_alloc (grown_alloc (grown_alloc (grown_alloc (grown_alloc (grown_refl _ _) _) _) _) _) _) rfl _⟩
  refine World.cell?_setCell_same' _ _ _ ?_
  rw [World.cell?_alloc_lt _ _ t (by simp; omega), World.cell?_alloc_lt _ _ t (by simp; omega), World.cell?_alloc_lt _ _ t (by simp; omega), World.cell?_alloc_lt _ _ t (by simp; omega), World.cell?_alloc_lt _ _ t htl, ht0]; rfl
set_option maxHeartbeats 2000000 in
theorem as_AA (p c : Int) (t : Nat) (old o2 : Value) (w : World) (hG : Glob w) (ht0 : w.cell? ⟨t, 0, none⟩ = some old) (ht1 : w.cell? ⟨t, 1, none⟩ = some o2) (hf0 : ∀ i, w.frozen? ⟨t, i, none⟩ = false) :
    Calls Tryz.prog 67 #[atV p c, .iface 184 (.pointer (some ⟨t, 0, none⟩))] w fun ev w' => ev = .returned (.bool true) ∧ w'.cell? ⟨t, 0, none⟩ = some (.int .i64 p) ∧ w'.cell? ⟨t, 1, none⟩ = some (errV c) ∧ w.grownBy w' (some t) := by
  refine (as_AA_x p c t old o2 w hG ht0 ht1 hf0).mono ?_
  rintro e w' ⟨rfl, rfl⟩
  have htl : t < w.heap.size := cell_lt ht0
  refine ⟨rfl, ?_, ?_, grown_setCell (g := t) (p := ⟨t, 1, none⟩) (grown_setCell (g := t) (p := ⟨t, 0, none⟩) (grown_alloc (grown_alloc (grown_alloc (grown_alloc (grown_refl _ _) _) _) _) _) rfl _) rfl _⟩
  · rw [World.cell?_setCell_other]
    · refine World.cell?_setCell_same' _ _ _ ?_
      (repeat rw [World.cell?_alloc_lt _ _ _ (by simp only [heap_push, Array.size_push]; omega)]); rw [ht0]; rfl
    · intro e; injection e; omega
  · refine World.cell?_setCell_same' _ _ _ ?_
    rw [World.cell?_setCell_other]
    · (repeat rw [World.cell?_alloc_lt _ _ _ (by simp only [heap_push, Array.size_push]; omega)]); rw [ht1]; rfl
    · intro e; injection e; omega
end Go.Proofs.YtbaopcpmmdmomaaGreatDoor
