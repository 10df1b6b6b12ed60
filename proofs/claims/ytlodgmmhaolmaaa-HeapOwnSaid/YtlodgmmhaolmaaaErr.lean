/- errors.As at the errors of this program (api.Errno, api.At, api.In), and weirboth.Is, weirboth.Same, by their contracts. Conditions: the variable errors.errorType holds the handle of the type error. -/
import Derived.Test.YtlodgmmhaolmaaaProg
import Derived.WalkKit
import Derived.LaidEql
import Derived.Stop.Asserts
import Derived.RowKitTokens
import Derived.Lib.Hide
namespace Go.Proofs.Ytlodgmmhaolmaaa
open Go.RowKit Go.Extern.Stop Go.Stop Go.Extern

/-! closed facts on the model's entries -/
theorem rlm (z : Sem Value) (f : TypeId → Addr → Nat → Nat → Sem Value) (v : Value) :
    ReflectliteValue.method z f #[v] = (do match ← ReflectliteValue.parts v with | none => z | some (t, a, fl) => f t a fl (fl % 32)) := rfl
theorem rls (v x : Value) : ReflectliteValue.set #[v, x] = (do
    let (some (dst, a, fl), some (src, b, _)) := (← ReflectliteValue.parts v, ← ReflectliteValue.parts x)
      | unsupported (.noEntry "extern/(internal/reflectlite.Value).Set.zeroValue")
    if fl / ReflectliteValue.flagAddr % 2 == 0 then unsupported (.noEntry "extern/(internal/reflectlite.Value).Set.unaddressable")
    let val ← loadVar src b
    if ← Rtype.directlyAssignable dst src then storeVar dst a val
    else if ← Rtype.implements dst src then
      if (← Rtype.kind src) == 20 then
        match val with
        | .nilIface => unsupported (.noEntry "extern/reflectlite: a nil value of one interface type handed on as a value of another")
        | _ => storeVar dst a val
      else storeVar dst a (.iface src val)
    else panicString ("reflectlite.Set: value of type " ++ (← Rtype.spelt src) ++ " is not assignable to type " ++ (← Rtype.spelt dst))
    pure (.tuple #[])) := rfl
/-! target *E -/
theorem E_kindT (w : World) : ((ReflectliteType.abiMethod fun t => (fun a : Nat => Value.int IntKind.u8 (a : Int)) <$> Rtype.kind t) #[.pointer (some ⟨0, 91, none⟩)]).run Try.prog w = .ok (.int .u8 2) w := by kernel_rfl
theorem E_mk (p : Addr) (w : World) : (ReflectliteValue.mk 91 p ReflectliteValue.flagAddr).run Try.prog w = .ok (.agg #[.pointer (some ⟨0, 91, none⟩), .pointer (some p), .int .u64 386]) w := by kernel_rfl
theorem E_valueOf (c : Int) (w : World) : (ReflectliteValue.unpack (.iface 91 (.int .i64 c))).run Try.prog w = .ok (.agg #[.pointer (some ⟨0, 91, none⟩), .pointer (some ⟨w.heap.size, 0, none⟩), .int .u64 130]) (w.alloc (.cells #[.int .i64 c] 91)) := by kernel_rfl
theorem E_partsA (a : Addr) (w : World) : (ReflectliteValue.parts (.agg #[.pointer (some ⟨0, 91, none⟩), .pointer (some a), .int .u64 386])).run Try.prog w = .ok (some (91, a, 386)) w := by kernel_rfl
theorem E_partsT (a : Addr) (w : World) : (ReflectliteValue.parts (.agg #[.pointer (some ⟨0, 91, none⟩), .pointer (some a), .int .u64 130])).run Try.prog w = .ok (some (91, a, 130)) w := by kernel_rfl
theorem E_direct (w : World) : (Rtype.directlyAssignable 91 91).run Try.prog w = .ok true w := by kernel_rfl
theorem E_size (w : World) : (sizeOf 91).run Try.prog w = .ok 1 w := by kernel_rfl
theorem E_set (ta b : Addr) (c : Int) (old : Value) (W : World) (hb : W.cell? b = some (.int .i64 c)) (ht : W.cell? ta = some old) (hf : W.frozen? ta = false) :
    (ReflectliteValue.set #[.agg #[.pointer (some ⟨0, 91, none⟩), .pointer (some ta), .int .u64 386], .agg #[.pointer (some ⟨0, 91, none⟩), .pointer (some b), .int .u64 130]]).run Try.prog W = .ok (.tuple #[]) (W.setCell ta (.int .i64 c)) := by
  rw [rls]
  simp only [Sem.run_bind, E_partsA, E_partsT, Result.andThen]
  simp [ReflectliteValue.flagAddr, loadVar, isAgg, underlying, Try.underlying91, hb, Result.andThen, E_direct, storeVar, Value.cells, storeCells, Addr.add]
  rw [run_store Try.prog W ta _ _ (by rfl)]
  simp [ht, hf]
/-! target *A -/
/-! target *I -/
theorem I_kindT (w : World) : ((ReflectliteType.abiMethod fun t => (fun a : Nat => Value.int IntKind.u8 (a : Int)) <$> Rtype.kind t) #[.pointer (some ⟨0, 109, none⟩)]).run Try.prog w = .ok (.int .u8 25) w := by kernel_rfl
theorem I_mk (p : Addr) (w : World) : (ReflectliteValue.mk 109 p ReflectliteValue.flagAddr).run Try.prog w = .ok (.agg #[.pointer (some ⟨0, 109, none⟩), .pointer (some p), .int .u64 409]) w := by kernel_rfl
theorem I_valueOf (c : Int) (d : Value) (w : World) : (ReflectliteValue.unpack (.iface 109 (.agg #[.int .i64 c, d]))).run Try.prog w = .ok (.agg #[.pointer (some ⟨0, 109, none⟩), .pointer (some ⟨w.heap.size, 0, none⟩), .int .u64 153]) (w.alloc (.cells #[.int .i64 c, d] 109)) := by kernel_rfl
theorem I_partsA (a : Addr) (w : World) : (ReflectliteValue.parts (.agg #[.pointer (some ⟨0, 109, none⟩), .pointer (some a), .int .u64 409])).run Try.prog w = .ok (some (109, a, 409)) w := by kernel_rfl
theorem I_partsT (a : Addr) (w : World) : (ReflectliteValue.parts (.agg #[.pointer (some ⟨0, 109, none⟩), .pointer (some a), .int .u64 153])).run Try.prog w = .ok (some (109, a, 153)) w := by kernel_rfl
theorem I_direct (w : World) : (Rtype.directlyAssignable 109 109).run Try.prog w = .ok true w := by kernel_rfl
theorem I_size (w : World) : (sizeOf 109).run Try.prog w = .ok 2 w := by kernel_rfl
end Go.Proofs.Ytlodgmmhaolmaaa
