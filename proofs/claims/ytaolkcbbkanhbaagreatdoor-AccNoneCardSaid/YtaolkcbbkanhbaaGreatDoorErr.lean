/- errors.As at the errors of this program (api.Errno, api.At, api.In), and weirboth.Is, weirboth.Same, by their contracts. Conditions: the variable errors.errorType holds the handle of the type error. -/
import Derived.Test.YtaolkcbbkanhbaaGreatDoorProg
import Derived.WalkKit
import Derived.LaidEql
import Derived.Stop.Asserts
import Derived.RowKitTokens
import Derived.Lib.Hide
namespace Go.Proofs.YtaolkcbbkanhbaaGreatDoor
open Go.RowKit Go.Extern.Stop Go.Stop Go.Extern

/-- What the listed variable holds. -/
def Glob (w : World) : Prop := w.cell? ⟨0, 0, none⟩ = some (.iface 154 (.agg #[.pointer (some ⟨6, 28, none⟩)]))
theorem Glob.lt {w : World} (h : Glob w) : 0 < w.heap.size := by
  rcases Nat.lt_or_ge 0 w.heap.size with h0 | h0
  · exact h0
  · simp [Glob, World.cell?, Array.getElem?_eq_none h0] at h
theorem Glob.below {B : Nat} {w w' : World} (h : Glob w) (hb : Below B w w') (hB : 0 < B) : Glob w' := by
  unfold Glob at *
  rw [hb.cell (p := ⟨0, 0, none⟩) hB]; exact h

theorem as_nil (t : Value) (w : World) :
    Calls Tryz.prog 38 #[.nilIface, t] w fun e w' => e = .returned (.bool false) ∧ w' = w := by
  go_enter Tryz.func38, Tryz.ntmps38
  go_wp2
  go_ret
  exact ⟨rfl, rfl⟩

/-! closed facts on the model's entries -/
theorem rlm (z : Sem Value) (f : TypeId → Addr → Nat → Nat → Sem Value) (v : Value) :
    ReflectliteValue.method z f #[v] = (do match ← ReflectliteValue.parts v with | none => z | some (t, a, fl) => f t a fl (fl % 32)) := rfl
theorem rls (v x : Value) : ReflectliteValue.set #[v, x] = (do
    let (some (dst, a, fl), some (src, b, _)) := (← ReflectliteValue.parts v, ← ReflectliteValue.parts x)
      | unsupported (.noEntry "extern/(internal/reflectlite.Value).Set.zeroValue")
    if fl / ReflectliteValue.flagAddr % 2 == 0 then unsupported (.noEntry "extern/(internal/reflectlite.Value).Set.unaddressable")
    let val ← loadVar src b
    if ← Rtype.directlyAssignable dst src then storeVar dst a val
    else if ← Rtype.implements dst src then
      if (← Rtype.kind src) == 20 then
        match val with
        | .nilIface => unsupported (.noEntry "extern/reflectlite: a nil value of one interface type handed on as a value of another")
        | _ => storeVar dst a val
      else storeVar dst a (.iface src val)
    else panicString ("reflectlite.Set: value of type " ++ (← Rtype.spelt src) ++ " is not assignable to type " ++ (← Rtype.spelt dst))
    pure (.tuple #[])) := rfl
theorem m_Kind (h : Value) (w : World) : (Go.method 375 154 (.agg #[h]) "Kind").run Tryz.prog w = .ok (104, h) w := by kernel_rfl
theorem m_Elem (h : Value) (w : World) : (Go.method 375 154 (.agg #[h]) "Elem").run Tryz.prog w = .ok (172, .agg #[h]) w := by kernel_rfl
theorem m_Impl (h : Value) (w : World) : (Go.method 375 154 (.agg #[h]) "Implements").run Tryz.prog w = .ok (173, .agg #[h]) w := by kernel_rfl
theorem m_Assn (h : Value) (w : World) : (Go.method 375 154 (.agg #[h]) "AssignableTo").run Tryz.prog w = .ok (170, .agg #[h]) w := by kernel_rfl
/-! target *E -/
theorem E_valueOfP (t : Addr) (w : World) : (ReflectliteValue.unpack (.iface 110 (.pointer (some t)))).run Tryz.prog w = .ok (.agg #[.pointer (some ⟨6, 110, none⟩), .pointer (some ⟨w.heap.size, 0, none⟩), .int .u64 150]) (w.alloc (.cells #[.pointer (some t)] 110)) := by kernel_rfl
theorem E_typeP (a : Addr) (w : World) : (ReflectliteValue.methodAny (ReflectliteValue.valueError "reflectlite.Value.Type" 0) (fun t _ _ _ => ReflectliteType.toType t) #[.agg #[.pointer (some ⟨6, 110, none⟩), .pointer (some a), .int .u64 150]]).run Tryz.prog w = .ok (.iface 154 (.agg #[.pointer (some ⟨6, 110, none⟩)])) w := by kernel_rfl
theorem E_kindP (w : World) : ((ReflectliteType.abiMethod fun t => (fun a : Nat => Value.int IntKind.u8 (a : Int)) <$> Rtype.kind t) #[.pointer (some ⟨6, 110, none⟩)]).run Tryz.prog w = .ok (.int .u8 22) w := by kernel_rfl
theorem E_kindT (w : World) : ((ReflectliteType.abiMethod fun t => (fun a : Nat => Value.int IntKind.u8 (a : Int)) <$> Rtype.kind t) #[.pointer (some ⟨6, 66, none⟩)]).run Tryz.prog w = .ok (.int .u8 2) w := by kernel_rfl
theorem E_elemP (w : World) : (ReflectliteType.method ReflectliteType.elem #[.agg #[.pointer (some ⟨6, 110, none⟩)]]).run Tryz.prog w = .ok (.iface 154 (.agg #[.pointer (some ⟨6, 66, none⟩)])) w := by kernel_rfl
theorem E_impl (w : World) : (ReflectliteType.relation "Implements" ReflectliteType.implements_ #[.agg #[.pointer (some ⟨6, 66, none⟩)], .iface 154 (.agg #[.pointer (some ⟨6, 28, none⟩)])]).run Tryz.prog w = .ok (.bool true) w := by kernel_rfl
theorem E_typeOf (v : Value) (w : World) : (ReflectliteType.typeOf #[.iface 66 v]).run Tryz.prog w = .ok (.iface 154 (.agg #[.pointer (some ⟨6, 66, none⟩)])) w := by kernel_rfl
theorem E_parts (a : Addr) (w : World) : (ReflectliteValue.parts (.agg #[.pointer (some ⟨6, 110, none⟩), .pointer (some a), .int .u64 150])).run Tryz.prog w = .ok (some (110, a, 150)) w := by kernel_rfl
theorem E_isNil (a p : Addr) (W : World) (ha : W.cell? a = some (.pointer (some p))) :
    (ReflectliteValue.method (ReflectliteValue.valueError "reflectlite.Value.IsNil" 0) ReflectliteValue.isNil #[.agg #[.pointer (some ⟨6, 110, none⟩), .pointer (some a), .int .u64 150]]).run Tryz.prog W = .ok (.bool false) W := by
  rw [rlm]
  simp only [Sem.run_bind, E_parts, Result.andThen]
  simp [ReflectliteValue.isNil, loadVar, isAgg, underlying, Tryz.underlying110, ha, Result.andThen]
theorem E_elemOf (w : World) : (Rtype.elem? 110).run Tryz.prog w = .ok (some 66) w := by kernel_rfl
theorem E_mk (p : Addr) (w : World) : (ReflectliteValue.mk 66 p ReflectliteValue.flagAddr).run Tryz.prog w = .ok (.agg #[.pointer (some ⟨6, 66, none⟩), .pointer (some p), .int .u64 386]) w := by kernel_rfl
theorem E_elemV (a p : Addr) (W : World) (ha : W.cell? a = some (.pointer (some p))) :
    (ReflectliteValue.method (ReflectliteValue.valueError "reflectlite.Value.Elem" 0) ReflectliteValue.elem #[.agg #[.pointer (some ⟨6, 110, none⟩), .pointer (some a), .int .u64 150]]).run Tryz.prog W = .ok (.agg #[.pointer (some ⟨6, 66, none⟩), .pointer (some p), .int .u64 386]) W := by
  rw [rlm]
  simp only [Sem.run_bind, E_parts, Result.andThen]
  simp [ReflectliteValue.elem, loadVar, isAgg, underlying, Tryz.underlying110, ha, Result.andThen, E_elemOf, E_mk]
theorem E_valueOf (c : Int) (w : World) : (ReflectliteValue.unpack (.iface 66 (.int .i64 c))).run Tryz.prog w = .ok (.agg #[.pointer (some ⟨6, 66, none⟩), .pointer (some ⟨w.heap.size, 0, none⟩), .int .u64 130]) (w.alloc (.cells #[.int .i64 c] 66)) := by kernel_rfl
theorem E_partsA (a : Addr) (w : World) : (ReflectliteValue.parts (.agg #[.pointer (some ⟨6, 66, none⟩), .pointer (some a), .int .u64 386])).run Tryz.prog w = .ok (some (66, a, 386)) w := by kernel_rfl
theorem E_partsT (a : Addr) (w : World) : (ReflectliteValue.parts (.agg #[.pointer (some ⟨6, 66, none⟩), .pointer (some a), .int .u64 130])).run Tryz.prog w = .ok (some (66, a, 130)) w := by kernel_rfl
theorem E_direct (w : World) : (Rtype.directlyAssignable 66 66).run Tryz.prog w = .ok true w := by kernel_rfl
theorem E_size (w : World) : (sizeOf 66).run Tryz.prog w = .ok 1 w := by kernel_rfl
theorem E_set (ta b : Addr) (c : Int) (old : Value) (W : World) (hb : W.cell? b = some (.int .i64 c)) (ht : W.cell? ta = some old) (hf : W.frozen? ta = false) :
    (ReflectliteValue.set #[.agg #[.pointer (some ⟨6, 66, none⟩), .pointer (some ta), .int .u64 386], .agg #[.pointer (some ⟨6, 66, none⟩), .pointer (some b), .int .u64 130]]).run Tryz.prog W = .ok (.tuple #[]) (W.setCell ta (.int .i64 c)) := by
  rw [rls]
  simp only [Sem.run_bind, E_partsA, E_partsT, Result.andThen]
  simp [ReflectliteValue.flagAddr, loadVar, isAgg, underlying, Tryz.underlying66, hb, Result.andThen, E_direct, storeVar, Value.cells, storeCells, Addr.add]
  rw [run_store Tryz.prog W ta _ _ (by rfl)]
  simp [ht, hf]
theorem asn_EE (w : World) : (ReflectliteType.relation "AssignableTo" ReflectliteType.assignableTo #[.agg #[.pointer (some ⟨6, 66, none⟩)], .iface 154 (.agg #[.pointer (some ⟨6, 66, none⟩)])]).run Tryz.prog w = .ok (.bool true) w := by kernel_rfl
theorem asn_AE (w : World) : (ReflectliteType.relation "AssignableTo" ReflectliteType.assignableTo #[.agg #[.pointer (some ⟨6, 122, none⟩)], .iface 154 (.agg #[.pointer (some ⟨6, 66, none⟩)])]).run Tryz.prog w = .ok (.bool false) w := by kernel_rfl
theorem asn_IE (w : World) : (ReflectliteType.relation "AssignableTo" ReflectliteType.assignableTo #[.agg #[.pointer (some ⟨6, 124, none⟩)], .iface 154 (.agg #[.pointer (some ⟨6, 66, none⟩)])]).run Tryz.prog w = .ok (.bool false) w := by kernel_rfl
/-! target *A -/
theorem A_valueOfP (t : Addr) (w : World) : (ReflectliteValue.unpack (.iface 125 (.pointer (some t)))).run Tryz.prog w = .ok (.agg #[.pointer (some ⟨6, 125, none⟩), .pointer (some ⟨w.heap.size, 0, none⟩), .int .u64 150]) (w.alloc (.cells #[.pointer (some t)] 125)) := by kernel_rfl
theorem A_typeP (a : Addr) (w : World) : (ReflectliteValue.methodAny (ReflectliteValue.valueError "reflectlite.Value.Type" 0) (fun t _ _ _ => ReflectliteType.toType t) #[.agg #[.pointer (some ⟨6, 125, none⟩), .pointer (some a), .int .u64 150]]).run Tryz.prog w = .ok (.iface 154 (.agg #[.pointer (some ⟨6, 125, none⟩)])) w := by kernel_rfl
theorem A_kindP (w : World) : ((ReflectliteType.abiMethod fun t => (fun a : Nat => Value.int IntKind.u8 (a : Int)) <$> Rtype.kind t) #[.pointer (some ⟨6, 125, none⟩)]).run Tryz.prog w = .ok (.int .u8 22) w := by kernel_rfl
theorem A_kindT (w : World) : ((ReflectliteType.abiMethod fun t => (fun a : Nat => Value.int IntKind.u8 (a : Int)) <$> Rtype.kind t) #[.pointer (some ⟨6, 122, none⟩)]).run Tryz.prog w = .ok (.int .u8 25) w := by kernel_rfl
theorem A_elemP (w : World) : (ReflectliteType.method ReflectliteType.elem #[.agg #[.pointer (some ⟨6, 125, none⟩)]]).run Tryz.prog w = .ok (.iface 154 (.agg #[.pointer (some ⟨6, 122, none⟩)])) w := by kernel_rfl
theorem A_impl (w : World) : (ReflectliteType.relation "Implements" ReflectliteType.implements_ #[.agg #[.pointer (some ⟨6, 122, none⟩)], .iface 154 (.agg #[.pointer (some ⟨6, 28, none⟩)])]).run Tryz.prog w = .ok (.bool true) w := by kernel_rfl
theorem A_typeOf (v : Value) (w : World) : (ReflectliteType.typeOf #[.iface 122 v]).run Tryz.prog w = .ok (.iface 154 (.agg #[.pointer (some ⟨6, 122, none⟩)])) w := by kernel_rfl
theorem A_parts (a : Addr) (w : World) : (ReflectliteValue.parts (.agg #[.pointer (some ⟨6, 125, none⟩), .pointer (some a), .int .u64 150])).run Tryz.prog w = .ok (some (125, a, 150)) w := by kernel_rfl
theorem A_isNil (a p : Addr) (W : World) (ha : W.cell? a = some (.pointer (some p))) :
    (ReflectliteValue.method (ReflectliteValue.valueError "reflectlite.Value.IsNil" 0) ReflectliteValue.isNil #[.agg #[.pointer (some ⟨6, 125, none⟩), .pointer (some a), .int .u64 150]]).run Tryz.prog W = .ok (.bool false) W := by
  rw [rlm]
  simp only [Sem.run_bind, A_parts, Result.andThen]
  simp [ReflectliteValue.isNil, loadVar, isAgg, underlying, Tryz.underlying125, ha, Result.andThen]
theorem A_elemOf (w : World) : (Rtype.elem? 125).run Tryz.prog w = .ok (some 122) w := by kernel_rfl
theorem A_mk (p : Addr) (w : World) : (ReflectliteValue.mk 122 p ReflectliteValue.flagAddr).run Tryz.prog w = .ok (.agg #[.pointer (some ⟨6, 122, none⟩), .pointer (some p), .int .u64 409]) w := by kernel_rfl
theorem A_elemV (a p : Addr) (W : World) (ha : W.cell? a = some (.pointer (some p))) :
    (ReflectliteValue.method (ReflectliteValue.valueError "reflectlite.Value.Elem" 0) ReflectliteValue.elem #[.agg #[.pointer (some ⟨6, 125, none⟩), .pointer (some a), .int .u64 150]]).run Tryz.prog W = .ok (.agg #[.pointer (some ⟨6, 122, none⟩), .pointer (some p), .int .u64 409]) W := by
  rw [rlm]
  simp only [Sem.run_bind, A_parts, Result.andThen]
  simp [ReflectliteValue.elem, loadVar, isAgg, underlying, Tryz.underlying125, ha, Result.andThen, A_elemOf, A_mk]
theorem A_valueOf (c : Int) (d : Value) (w : World) : (ReflectliteValue.unpack (.iface 122 (.agg #[.int .i64 c, d]))).run Tryz.prog w = .ok (.agg #[.pointer (some ⟨6, 122, none⟩), .pointer (some ⟨w.heap.size, 0, none⟩), .int .u64 153]) (w.alloc (.cells #[.int .i64 c, d] 122)) := by kernel_rfl
theorem A_partsA (a : Addr) (w : World) : (ReflectliteValue.parts (.agg #[.pointer (some ⟨6, 122, none⟩), .pointer (some a), .int .u64 409])).run Tryz.prog w = .ok (some (122, a, 409)) w := by kernel_rfl
theorem A_partsT (a : Addr) (w : World) : (ReflectliteValue.parts (.agg #[.pointer (some ⟨6, 122, none⟩), .pointer (some a), .int .u64 153])).run Tryz.prog w = .ok (some (122, a, 153)) w := by kernel_rfl
theorem A_direct (w : World) : (Rtype.directlyAssignable 122 122).run Tryz.prog w = .ok true w := by kernel_rfl
theorem A_size (w : World) : (sizeOf 122).run Tryz.prog w = .ok 2 w := by kernel_rfl
theorem asn_EA (w : World) : (ReflectliteType.relation "AssignableTo" ReflectliteType.assignableTo #[.agg #[.pointer (some ⟨6, 66, none⟩)], .iface 154 (.agg #[.pointer (some ⟨6, 122, none⟩)])]).run Tryz.prog w = .ok (.bool false) w := by kernel_rfl
theorem asn_AA (w : World) : (ReflectliteType.relation "AssignableTo" ReflectliteType.assignableTo #[.agg #[.pointer (some ⟨6, 122, none⟩)], .iface 154 (.agg #[.pointer (some ⟨6, 122, none⟩)])]).run Tryz.prog w = .ok (.bool true) w := by kernel_rfl
theorem asn_IA (w : World) : (ReflectliteType.relation "AssignableTo" ReflectliteType.assignableTo #[.agg #[.pointer (some ⟨6, 124, none⟩)], .iface 154 (.agg #[.pointer (some ⟨6, 122, none⟩)])]).run Tryz.prog w = .ok (.bool false) w := by kernel_rfl
/-! target *I -/
theorem I_valueOfP (t : Addr) (w : World) : (ReflectliteValue.unpack (.iface 126 (.pointer (some t)))).run Tryz.prog w = .ok (.agg #[.pointer (some ⟨6, 126, none⟩), .pointer (some ⟨w.heap.size, 0, none⟩), .int .u64 150]) (w.alloc (.cells #[.pointer (some t)] 126)) := by kernel_rfl
theorem I_typeP (a : Addr) (w : World) : (ReflectliteValue.methodAny (ReflectliteValue.valueError "reflectlite.Value.Type" 0) (fun t _ _ _ => ReflectliteType.toType t) #[.agg #[.pointer (some ⟨6, 126, none⟩), .pointer (some a), .int .u64 150]]).run Tryz.prog w = .ok (.iface 154 (.agg #[.pointer (some ⟨6, 126, none⟩)])) w := by kernel_rfl
theorem I_kindP (w : World) : ((ReflectliteType.abiMethod fun t => (fun a : Nat => Value.int IntKind.u8 (a : Int)) <$> Rtype.kind t) #[.pointer (some ⟨6, 126, none⟩)]).run Tryz.prog w = .ok (.int .u8 22) w := by kernel_rfl
theorem I_kindT (w : World) : ((ReflectliteType.abiMethod fun t => (fun a : Nat => Value.int IntKind.u8 (a : Int)) <$> Rtype.kind t) #[.pointer (some ⟨6, 124, none⟩)]).run Tryz.prog w = .ok (.int .u8 25) w := by kernel_rfl
theorem I_elemP (w : World) : (ReflectliteType.method ReflectliteType.elem #[.agg #[.pointer (some ⟨6, 126, none⟩)]]).run Tryz.prog w = .ok (.iface 154 (.agg #[.pointer (some ⟨6, 124, none⟩)])) w := by kernel_rfl
theorem I_impl (w : World) : (ReflectliteType.relation "Implements" ReflectliteType.implements_ #[.agg #[.pointer (some ⟨6, 124, none⟩)], .iface 154 (.agg #[.pointer (some ⟨6, 28, none⟩)])]).run Tryz.prog w = .ok (.bool true) w := by kernel_rfl
theorem I_typeOf (v : Value) (w : World) : (ReflectliteType.typeOf #[.iface 124 v]).run Tryz.prog w = .ok (.iface 154 (.agg #[.pointer (some ⟨6, 124, none⟩)])) w := by kernel_rfl
theorem I_parts (a : Addr) (w : World) : (ReflectliteValue.parts (.agg #[.pointer (some ⟨6, 126, none⟩), .pointer (some a), .int .u64 150])).run Tryz.prog w = .ok (some (126, a, 150)) w := by kernel_rfl
theorem I_isNil (a p : Addr) (W : World) (ha : W.cell? a = some (.pointer (some p))) :
    (ReflectliteValue.method (ReflectliteValue.valueError "reflectlite.Value.IsNil" 0) ReflectliteValue.isNil #[.agg #[.pointer (some ⟨6, 126, none⟩), .pointer (some a), .int .u64 150]]).run Tryz.prog W = .ok (.bool false) W := by
  rw [rlm]
  simp only [Sem.run_bind, I_parts, Result.andThen]
  simp [ReflectliteValue.isNil, loadVar, isAgg, underlying, Tryz.underlying126, ha, Result.andThen]
theorem I_elemOf (w : World) : (Rtype.elem? 126).run Tryz.prog w = .ok (some 124) w := by kernel_rfl
theorem I_mk (p : Addr) (w : World) : (ReflectliteValue.mk 124 p ReflectliteValue.flagAddr).run Tryz.prog w = .ok (.agg #[.pointer (some ⟨6, 124, none⟩), .pointer (some p), .int .u64 409]) w := by kernel_rfl
theorem I_elemV (a p : Addr) (W : World) (ha : W.cell? a = some (.pointer (some p))) :
    (ReflectliteValue.method (ReflectliteValue.valueError "reflectlite.Value.Elem" 0) ReflectliteValue.elem #[.agg #[.pointer (some ⟨6, 126, none⟩), .pointer (some a), .int .u64 150]]).run Tryz.prog W = .ok (.agg #[.pointer (some ⟨6, 124, none⟩), .pointer (some p), .int .u64 409]) W := by
  rw [rlm]
  simp only [Sem.run_bind, I_parts, Result.andThen]
  simp [ReflectliteValue.elem, loadVar, isAgg, underlying, Tryz.underlying126, ha, Result.andThen, I_elemOf, I_mk]
theorem I_valueOf (c : Int) (d : Value) (w : World) : (ReflectliteValue.unpack (.iface 124 (.agg #[.int .i64 c, d]))).run Tryz.prog w = .ok (.agg #[.pointer (some ⟨6, 124, none⟩), .pointer (some ⟨w.heap.size, 0, none⟩), .int .u64 153]) (w.alloc (.cells #[.int .i64 c, d] 124)) := by kernel_rfl
theorem I_partsA (a : Addr) (w : World) : (ReflectliteValue.parts (.agg #[.pointer (some ⟨6, 124, none⟩), .pointer (some a), .int .u64 409])).run Tryz.prog w = .ok (some (124, a, 409)) w := by kernel_rfl
theorem I_partsT (a : Addr) (w : World) : (ReflectliteValue.parts (.agg #[.pointer (some ⟨6, 124, none⟩), .pointer (some a), .int .u64 153])).run Tryz.prog w = .ok (some (124, a, 153)) w := by kernel_rfl
theorem I_direct (w : World) : (Rtype.directlyAssignable 124 124).run Tryz.prog w = .ok true w := by kernel_rfl
theorem I_size (w : World) : (sizeOf 124).run Tryz.prog w = .ok 2 w := by kernel_rfl
theorem asn_EI (w : World) : (ReflectliteType.relation "AssignableTo" ReflectliteType.assignableTo #[.agg #[.pointer (some ⟨6, 66, none⟩)], .iface 154 (.agg #[.pointer (some ⟨6, 124, none⟩)])]).run Tryz.prog w = .ok (.bool false) w := by kernel_rfl
theorem asn_AI (w : World) : (ReflectliteType.relation "AssignableTo" ReflectliteType.assignableTo #[.agg #[.pointer (some ⟨6, 122, none⟩)], .iface 154 (.agg #[.pointer (some ⟨6, 124, none⟩)])]).run Tryz.prog w = .ok (.bool false) w := by kernel_rfl
theorem asn_II (w : World) : (ReflectliteType.relation "AssignableTo" ReflectliteType.assignableTo #[.agg #[.pointer (some ⟨6, 124, none⟩)], .iface 154 (.agg #[.pointer (some ⟨6, 124, none⟩)])]).run Tryz.prog w = .ok (.bool true) w := by kernel_rfl
theorem E_As (v : Value) (xT : TypeId) (w : World) : (Instr.typeAssert (.iface 66 v) xT 159 true).run Tryz.prog w = .ok (.tuple #[.nilIface, .bool false]) w := run_typeAssert_lacksB Tryz.underlying159 (by kernel_rfl) (by kernel_rfl) v xT w
theorem E_Un (v : Value) (xT : TypeId) (w : World) : (Instr.typeAssert (.iface 66 v) xT 162 true).run Tryz.prog w = .ok (.tuple #[.nilIface, .bool false]) w := run_typeAssert_lacksB Tryz.underlying162 (by kernel_rfl) (by kernel_rfl) v xT w
theorem E_Us (v : Value) (xT : TypeId) (w : World) : (Instr.typeAssert (.iface 66 v) xT 164 true).run Tryz.prog w = .ok (.tuple #[.nilIface, .bool false]) w := run_typeAssert_lacksB Tryz.underlying164 (by kernel_rfl) (by kernel_rfl) v xT w
theorem A_As (v : Value) (xT : TypeId) (w : World) : (Instr.typeAssert (.iface 122 v) xT 159 true).run Tryz.prog w = .ok (.tuple #[.nilIface, .bool false]) w := run_typeAssert_lacksB Tryz.underlying159 (by kernel_rfl) (by kernel_rfl) v xT w
theorem A_Un (v : Value) (xT : TypeId) (w : World) : (Instr.typeAssert (.iface 122 v) xT 162 true).run Tryz.prog w = .ok (.tuple #[.iface 122 v, .bool true]) w := run_typeAssert_hasB Tryz.underlying162 (by kernel_rfl) v xT w
theorem A_Us (v : Value) (xT : TypeId) (w : World) : (Instr.typeAssert (.iface 122 v) xT 164 true).run Tryz.prog w = .ok (.tuple #[.nilIface, .bool false]) w := run_typeAssert_lacksB Tryz.underlying164 (by kernel_rfl) (by kernel_rfl) v xT w
theorem A_mUn (c : Int) (d : Value) (w : World) : (Go.method 375 122 (.agg #[.int .i64 c, d]) "Unwrap").run Tryz.prog w = .ok (163, .agg #[.int .i64 c, d]) w := by kernel_rfl
theorem I_As (v : Value) (xT : TypeId) (w : World) : (Instr.typeAssert (.iface 124 v) xT 159 true).run Tryz.prog w = .ok (.tuple #[.nilIface, .bool false]) w := run_typeAssert_lacksB Tryz.underlying159 (by kernel_rfl) (by kernel_rfl) v xT w
theorem I_Un (v : Value) (xT : TypeId) (w : World) : (Instr.typeAssert (.iface 124 v) xT 162 true).run Tryz.prog w = .ok (.tuple #[.iface 124 v, .bool true]) w := run_typeAssert_hasB Tryz.underlying162 (by kernel_rfl) v xT w
theorem I_Us (v : Value) (xT : TypeId) (w : World) : (Instr.typeAssert (.iface 124 v) xT 164 true).run Tryz.prog w = .ok (.tuple #[.nilIface, .bool false]) w := run_typeAssert_lacksB Tryz.underlying164 (by kernel_rfl) (by kernel_rfl) v xT w
theorem I_mUn (c : Int) (d : Value) (w : World) : (Go.method 375 124 (.agg #[.int .i64 c, d]) "Unwrap").run Tryz.prog w = .ok (165, .agg #[.int .i64 c, d]) w := by kernel_rfl
end Go.Proofs.YtaolkcbbkanhbaaGreatDoor
