/- errors.As at the errors of this program (api.Errno, api.At, api.In), and weirboth.Is, weirboth.Same, by their contracts. Conditions: the variable errors.errorType holds the handle of the type error. -/
import Derived.Test.YtbaopcpmmdmomaaGreatDoorProg
import Derived.WalkKit
import Derived.LaidEql
import Derived.Stop.Asserts
import Derived.RowKitTokens
import Derived.Lib.Hide
namespace Go.Proofs.YtbaopcpmmdmomaaGreatDoor
open Go.RowKit Go.Extern.Stop Go.Stop Go.Extern

/-- What the listed variable holds. -/
def Glob (w : World) : Prop := w.cell? ⟨0, 0, none⟩ = some (.iface 202 (.agg #[.pointer (some ⟨3, 62, none⟩)]))
theorem Glob.lt {w : World} (h : Glob w) : 0 < w.heap.size := by
  rcases Nat.lt_or_ge 0 w.heap.size with h0 | h0
  · exact h0
  · simp [Glob, World.cell?, Array.getElem?_eq_none h0] at h
theorem Glob.below {B : Nat} {w w' : World} (h : Glob w) (hb : Below B w w') (hB : 0 < B) : Glob w' := by
  unfold Glob at *
  rw [hb.cell (p := ⟨0, 0, none⟩) hB]; exact h

theorem as_nil (t : Value) (w : World) :
    Calls Tryz.prog 67 #[.nilIface, t] w fun e w' => e = .returned (.bool false) ∧ w' = w := by
  go_enter Tryz.func67, Tryz.ntmps67
  go_wp2
  go_ret
  exact ⟨rfl, rfl⟩

/-! closed facts on the model's entries -/
theorem rlm (z : Sem Value) (f : TypeId → Addr → Nat → Nat → Sem Value) (v : Value) :
    ReflectliteValue.method z f #[v] = (do match ← ReflectliteValue.parts v with | none => z | some (t, a, fl) => f t a fl (fl % 32)) := rfl
theorem rls (v x : Value) : ReflectliteValue.set #[v, x] = (do
    let (some (dst, a, fl), some (src, b, _)) := (← ReflectliteValue.parts v, ← ReflectliteValue.parts x)
      | unsupported (.noEntry "extern/(internal/reflectlite.Value).Set.zeroValue")
    if fl / ReflectliteValue.flagAddr % 2 == 0 then unsupported (.noEntry "extern/(internal/reflectlite.Value).Set.unaddressable")
    let val ← loadVar src b
    if ← Rtype.directlyAssignable dst src then storeVar dst a val
    else if ← Rtype.implements dst src then
      if (← Rtype.kind src) == 20 then
        match val with
        | .nilIface => unsupported (.noEntry "extern/reflectlite: a nil value of one interface type handed on as a value of another")
        | _ => storeVar dst a val
      else storeVar dst a (.iface src val)
    else panicString ("reflectlite.Set: value of type " ++ (← Rtype.spelt src) ++ " is not assignable to type " ++ (← Rtype.spelt dst))
    pure (.tuple #[])) := rfl
theorem m_Kind (h : Value) (w : World) : (Go.method 350 202 (.agg #[h]) "Kind").run Tryz.prog w = .ok (104, h) w := by kernel_rfl
theorem m_Elem (h : Value) (w : World) : (Go.method 350 202 (.agg #[h]) "Elem").run Tryz.prog w = .ok (117, .agg #[h]) w := by kernel_rfl
theorem m_Impl (h : Value) (w : World) : (Go.method 350 202 (.agg #[h]) "Implements").run Tryz.prog w = .ok (118, .agg #[h]) w := by kernel_rfl
theorem m_Assn (h : Value) (w : World) : (Go.method 350 202 (.agg #[h]) "AssignableTo").run Tryz.prog w = .ok (115, .agg #[h]) w := by kernel_rfl
/-! target *E -/
theorem E_valueOfP (t : Addr) (w : World) : (ReflectliteValue.unpack (.iface 104 (.pointer (some t)))).run Tryz.prog w = .ok (.agg #[.pointer (some ⟨3, 104, none⟩), .pointer (some ⟨w.heap.size, 0, none⟩), .int .u64 150]) (w.alloc (.cells #[.pointer (some t)] 104)) := by kernel_rfl
theorem E_typeP (a : Addr) (w : World) : (ReflectliteValue.methodAny (ReflectliteValue.valueError "reflectlite.Value.Type" 0) (fun t _ _ _ => ReflectliteType.toType t) #[.agg #[.pointer (some ⟨3, 104, none⟩), .pointer (some a), .int .u64 150]]).run Tryz.prog w = .ok (.iface 202 (.agg #[.pointer (some ⟨3, 104, none⟩)])) w := by kernel_rfl
theorem E_kindP (w : World) : ((ReflectliteType.abiMethod fun t => (fun a : Nat => Value.int IntKind.u8 (a : Int)) <$> Rtype.kind t) #[.pointer (some ⟨3, 104, none⟩)]).run Tryz.prog w = .ok (.int .u8 22) w := by kernel_rfl
theorem E_kindT (w : World) : ((ReflectliteType.abiMethod fun t => (fun a : Nat => Value.int IntKind.u8 (a : Int)) <$> Rtype.kind t) #[.pointer (some ⟨3, 87, none⟩)]).run Tryz.prog w = .ok (.int .u8 2) w := by kernel_rfl
theorem E_elemP (w : World) : (ReflectliteType.method ReflectliteType.elem #[.agg #[.pointer (some ⟨3, 104, none⟩)]]).run Tryz.prog w = .ok (.iface 202 (.agg #[.pointer (some ⟨3, 87, none⟩)])) w := by kernel_rfl
theorem E_impl (w : World) : (ReflectliteType.relation "Implements" ReflectliteType.implements_ #[.agg #[.pointer (some ⟨3, 87, none⟩)], .iface 202 (.agg #[.pointer (some ⟨3, 62, none⟩)])]).run Tryz.prog w = .ok (.bool true) w := by kernel_rfl
theorem E_typeOf (v : Value) (w : World) : (ReflectliteType.typeOf #[.iface 87 v]).run Tryz.prog w = .ok (.iface 202 (.agg #[.pointer (some ⟨3, 87, none⟩)])) w := by kernel_rfl
theorem E_parts (a : Addr) (w : World) : (ReflectliteValue.parts (.agg #[.pointer (some ⟨3, 104, none⟩), .pointer (some a), .int .u64 150])).run Tryz.prog w = .ok (some (104, a, 150)) w := by kernel_rfl
theorem E_isNil (a p : Addr) (W : World) (ha : W.cell? a = some (.pointer (some p))) :
    (ReflectliteValue.method (ReflectliteValue.valueError "reflectlite.Value.IsNil" 0) ReflectliteValue.isNil #[.agg #[.pointer (some ⟨3, 104, none⟩), .pointer (some a), .int .u64 150]]).run Tryz.prog W = .ok (.bool false) W := by
  rw [rlm]
  simp only [Sem.run_bind, E_parts, Result.andThen]
  simp [ReflectliteValue.isNil, loadVar, isAgg, underlying, Tryz.underlying104, ha, Result.andThen]
theorem E_elemOf (w : World) : (Rtype.elem? 104).run Tryz.prog w = .ok (some 87) w := by kernel_rfl
theorem E_mk (p : Addr) (w : World) : (ReflectliteValue.mk 87 p ReflectliteValue.flagAddr).run Tryz.prog w = .ok (.agg #[.pointer (some ⟨3, 87, none⟩), .pointer (some p), .int .u64 386]) w := by kernel_rfl
theorem E_elemV (a p : Addr) (W : World) (ha : W.cell? a = some (.pointer (some p))) :
    (ReflectliteValue.method (ReflectliteValue.valueError "reflectlite.Value.Elem" 0) ReflectliteValue.elem #[.agg #[.pointer (some ⟨3, 104, none⟩), .pointer (some a), .int .u64 150]]).run Tryz.prog W = .ok (.agg #[.pointer (some ⟨3, 87, none⟩), .pointer (some p), .int .u64 386]) W := by
  rw [rlm]
  simp only [Sem.run_bind, E_parts, Result.andThen]
  simp [ReflectliteValue.elem, loadVar, isAgg, underlying, Tryz.underlying104, ha, Result.andThen, E_elemOf, E_mk]
theorem E_valueOf (c : Int) (w : World) : (ReflectliteValue.unpack (.iface 87 (.int .i64 c))).run Tryz.prog w = .ok (.agg #[.pointer (some ⟨3, 87, none⟩), .pointer (some ⟨w.heap.size, 0, none⟩), .int .u64 130]) (w.alloc (.cells #[.int .i64 c] 87)) := by kernel_rfl
theorem E_partsA (a : Addr) (w : World) : (ReflectliteValue.parts (.agg #[.pointer (some ⟨3, 87, none⟩), .pointer (some a), .int .u64 386])).run Tryz.prog w = .ok (some (87, a, 386)) w := by kernel_rfl
theorem E_partsT (a : Addr) (w : World) : (ReflectliteValue.parts (.agg #[.pointer (some ⟨3, 87, none⟩), .pointer (some a), .int .u64 130])).run Tryz.prog w = .ok (some (87, a, 130)) w := by kernel_rfl
theorem E_direct (w : World) : (Rtype.directlyAssignable 87 87).run Tryz.prog w = .ok true w := by kernel_rfl
theorem E_size (w : World) : (sizeOf 87).run Tryz.prog w = .ok 1 w := by kernel_rfl
theorem E_set (ta b : Addr) (c : Int) (old : Value) (W : World) (hb : W.cell? b = some (.int .i64 c)) (ht : W.cell? ta = some old) (hf : W.frozen? ta = false) :
    (ReflectliteValue.set #[.agg #[.pointer (some ⟨3, 87, none⟩), .pointer (some ta), .int .u64 386], .agg #[.pointer (some ⟨3, 87, none⟩), .pointer (some b), .int .u64 130]]).run Tryz.prog W = .ok (.tuple #[]) (W.setCell ta (.int .i64 c)) := by
  rw [rls]
  simp only [Sem.run_bind, E_partsA, E_partsT, Result.andThen]
  simp [ReflectliteValue.flagAddr, loadVar, isAgg, underlying, Tryz.underlying87, hb, Result.andThen, E_direct, storeVar, Value.cells, storeCells, Addr.add]
  rw [run_store Tryz.prog W ta _ _ (by rfl)]
  simp [ht, hf]
theorem asn_EE (w : World) : (ReflectliteType.relation "AssignableTo" ReflectliteType.assignableTo #[.agg #[.pointer (some ⟨3, 87, none⟩)], .iface 202 (.agg #[.pointer (some ⟨3, 87, none⟩)])]).run Tryz.prog w = .ok (.bool true) w := by kernel_rfl
theorem asn_AE (w : World) : (ReflectliteType.relation "AssignableTo" ReflectliteType.assignableTo #[.agg #[.pointer (some ⟨3, 183, none⟩)], .iface 202 (.agg #[.pointer (some ⟨3, 87, none⟩)])]).run Tryz.prog w = .ok (.bool false) w := by kernel_rfl
/-! target *A -/
theorem A_valueOfP (t : Addr) (w : World) : (ReflectliteValue.unpack (.iface 184 (.pointer (some t)))).run Tryz.prog w = .ok (.agg #[.pointer (some ⟨3, 184, none⟩), .pointer (some ⟨w.heap.size, 0, none⟩), .int .u64 150]) (w.alloc (.cells #[.pointer (some t)] 184)) := by kernel_rfl
theorem A_typeP (a : Addr) (w : World) : (ReflectliteValue.methodAny (ReflectliteValue.valueError "reflectlite.Value.Type" 0) (fun t _ _ _ => ReflectliteType.toType t) #[.agg #[.pointer (some ⟨3, 184, none⟩), .pointer (some a), .int .u64 150]]).run Tryz.prog w = .ok (.iface 202 (.agg #[.pointer (some ⟨3, 184, none⟩)])) w := by kernel_rfl
theorem A_kindP (w : World) : ((ReflectliteType.abiMethod fun t => (fun a : Nat => Value.int IntKind.u8 (a : Int)) <$> Rtype.kind t) #[.pointer (some ⟨3, 184, none⟩)]).run Tryz.prog w = .ok (.int .u8 22) w := by kernel_rfl
theorem A_kindT (w : World) : ((ReflectliteType.abiMethod fun t => (fun a : Nat => Value.int IntKind.u8 (a : Int)) <$> Rtype.kind t) #[.pointer (some ⟨3, 183, none⟩)]).run Tryz.prog w = .ok (.int .u8 25) w := by kernel_rfl
theorem A_elemP (w : World) : (ReflectliteType.method ReflectliteType.elem #[.agg #[.pointer (some ⟨3, 184, none⟩)]]).run Tryz.prog w = .ok (.iface 202 (.agg #[.pointer (some ⟨3, 183, none⟩)])) w := by kernel_rfl
theorem A_impl (w : World) : (ReflectliteType.relation "Implements" ReflectliteType.implements_ #[.agg #[.pointer (some ⟨3, 183, none⟩)], .iface 202 (.agg #[.pointer (some ⟨3, 62, none⟩)])]).run Tryz.prog w = .ok (.bool true) w := by kernel_rfl
theorem A_typeOf (v : Value) (w : World) : (ReflectliteType.typeOf #[.iface 183 v]).run Tryz.prog w = .ok (.iface 202 (.agg #[.pointer (some ⟨3, 183, none⟩)])) w := by kernel_rfl
theorem A_parts (a : Addr) (w : World) : (ReflectliteValue.parts (.agg #[.pointer (some ⟨3, 184, none⟩), .pointer (some a), .int .u64 150])).run Tryz.prog w = .ok (some (184, a, 150)) w := by kernel_rfl
theorem A_isNil (a p : Addr) (W : World) (ha : W.cell? a = some (.pointer (some p))) :
    (ReflectliteValue.method (ReflectliteValue.valueError "reflectlite.Value.IsNil" 0) ReflectliteValue.isNil #[.agg #[.pointer (some ⟨3, 184, none⟩), .pointer (some a), .int .u64 150]]).run Tryz.prog W = .ok (.bool false) W := by
  rw [rlm]
  simp only [Sem.run_bind, A_parts, Result.andThen]
  simp [ReflectliteValue.isNil, loadVar, isAgg, underlying, Tryz.underlying184, ha, Result.andThen]
theorem A_elemOf (w : World) : (Rtype.elem? 184).run Tryz.prog w = .ok (some 183) w := by kernel_rfl
theorem A_mk (p : Addr) (w : World) : (ReflectliteValue.mk 183 p ReflectliteValue.flagAddr).run Tryz.prog w = .ok (.agg #[.pointer (some ⟨3, 183, none⟩), .pointer (some p), .int .u64 409]) w := by kernel_rfl
theorem A_elemV (a p : Addr) (W : World) (ha : W.cell? a = some (.pointer (some p))) :
    (ReflectliteValue.method (ReflectliteValue.valueError "reflectlite.Value.Elem" 0) ReflectliteValue.elem #[.agg #[.pointer (some ⟨3, 184, none⟩), .pointer (some a), .int .u64 150]]).run Tryz.prog W = .ok (.agg #[.pointer (some ⟨3, 183, none⟩), .pointer (some p), .int .u64 409]) W := by
  rw [rlm]
  simp only [Sem.run_bind, A_parts, Result.andThen]
  simp [ReflectliteValue.elem, loadVar, isAgg, underlying, Tryz.underlying184, ha, Result.andThen, A_elemOf, A_mk]
theorem A_valueOf (c : Int) (d : Value) (w : World) : (ReflectliteValue.unpack (.iface 183 (.agg #[.int .i64 c, d]))).run Tryz.prog w = .ok (.agg #[.pointer (some ⟨3, 183, none⟩), .pointer (some ⟨w.heap.size, 0, none⟩), .int .u64 153]) (w.alloc (.cells #[.int .i64 c, d] 183)) := by kernel_rfl
theorem A_partsA (a : Addr) (w : World) : (ReflectliteValue.parts (.agg #[.pointer (some ⟨3, 183, none⟩), .pointer (some a), .int .u64 409])).run Tryz.prog w = .ok (some (183, a, 409)) w := by kernel_rfl
theorem A_partsT (a : Addr) (w : World) : (ReflectliteValue.parts (.agg #[.pointer (some ⟨3, 183, none⟩), .pointer (some a), .int .u64 153])).run Tryz.prog w = .ok (some (183, a, 153)) w := by kernel_rfl
theorem A_direct (w : World) : (Rtype.directlyAssignable 183 183).run Tryz.prog w = .ok true w := by kernel_rfl
theorem A_size (w : World) : (sizeOf 183).run Tryz.prog w = .ok 2 w := by kernel_rfl
theorem asn_EA (w : World) : (ReflectliteType.relation "AssignableTo" ReflectliteType.assignableTo #[.agg #[.pointer (some ⟨3, 87, none⟩)], .iface 202 (.agg #[.pointer (some ⟨3, 183, none⟩)])]).run Tryz.prog w = .ok (.bool false) w := by kernel_rfl
theorem asn_AA (w : World) : (ReflectliteType.relation "AssignableTo" ReflectliteType.assignableTo #[.agg #[.pointer (some ⟨3, 183, none⟩)], .iface 202 (.agg #[.pointer (some ⟨3, 183, none⟩)])]).run Tryz.prog w = .ok (.bool true) w := by kernel_rfl
/-! target *I -/
theorem E_As (v : Value) (xT : TypeId) (w : World) : (Instr.typeAssert (.iface 87 v) xT 207 true).run Tryz.prog w = .ok (.tuple #[.nilIface, .bool false]) w := run_typeAssert_lacksB Tryz.underlying207 (by kernel_rfl) (by kernel_rfl) v xT w
theorem E_Un (v : Value) (xT : TypeId) (w : World) : (Instr.typeAssert (.iface 87 v) xT 210 true).run Tryz.prog w = .ok (.tuple #[.nilIface, .bool false]) w := run_typeAssert_lacksB Tryz.underlying210 (by kernel_rfl) (by kernel_rfl) v xT w
theorem E_Us (v : Value) (xT : TypeId) (w : World) : (Instr.typeAssert (.iface 87 v) xT 212 true).run Tryz.prog w = .ok (.tuple #[.nilIface, .bool false]) w := run_typeAssert_lacksB Tryz.underlying212 (by kernel_rfl) (by kernel_rfl) v xT w
theorem A_As (v : Value) (xT : TypeId) (w : World) : (Instr.typeAssert (.iface 183 v) xT 207 true).run Tryz.prog w = .ok (.tuple #[.nilIface, .bool false]) w := run_typeAssert_lacksB Tryz.underlying207 (by kernel_rfl) (by kernel_rfl) v xT w
theorem A_Un (v : Value) (xT : TypeId) (w : World) : (Instr.typeAssert (.iface 183 v) xT 210 true).run Tryz.prog w = .ok (.tuple #[.iface 183 v, .bool true]) w := run_typeAssert_hasB Tryz.underlying210 (by kernel_rfl) v xT w
theorem A_Us (v : Value) (xT : TypeId) (w : World) : (Instr.typeAssert (.iface 183 v) xT 212 true).run Tryz.prog w = .ok (.tuple #[.nilIface, .bool false]) w := run_typeAssert_lacksB Tryz.underlying212 (by kernel_rfl) (by kernel_rfl) v xT w
theorem A_mUn (c : Int) (d : Value) (w : World) : (Go.method 350 183 (.agg #[.int .i64 c, d]) "Unwrap").run Tryz.prog w = .ok (110, .agg #[.int .i64 c, d]) w := by kernel_rfl
end Go.Proofs.YtbaopcpmmdmomaaGreatDoor
