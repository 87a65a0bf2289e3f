/- errors.As at a target that is an Errno, plain.Told and gangplanksame.Error: what they answer of nil and of an Errno. After the kit's worked toy 'toyas', turned to this program's types. Conditions: the variable errors.errorType holds the handle that the row lists. -/
import Derived.Test.YtoaahiclmodcgaaProg
import Derived.WalkKit
import Derived.LaidEql
import Derived.Stop.Asserts
import Derived.RowKitTokens
import Derived.Handy
import Derived.Test.YtoaahiclmodcgaaBase
namespace Go.Proofs.Ytoaahiclmodcgaa
open Go.RowKit Go.Extern.Stop Go.Stop Go.Extern

theorem Try.kindE (w : World) : ((ReflectliteType.abiMethod fun t => (fun a : Nat => Value.int IntKind.u8 (a : Int)) <$> Rtype.kind t) #[.pointer (some ⟨0, 64, none⟩)]).run Try.prog w = .ok (.int .u8 2) w := by kernel_rfl
theorem Try.valueOfE (n : Int) (w : World) : (ReflectliteValue.unpack (.iface 64 (.int .i64 n))).run Try.prog w
    = .ok (.agg #[.pointer (some ⟨0, 64, none⟩), .pointer (some ⟨w.heap.size, 0, none⟩), .int .u64 130]) (w.alloc (.cells #[.int .i64 n] 64)) := by kernel_rfl

/-! The entries that read or write memory. -/
theorem rlm (z : Sem Value) (f : TypeId → Addr → Nat → Nat → Sem Value) (v : Value) :
    ReflectliteValue.method z f #[v] = (do match ← ReflectliteValue.parts v with | none => z | some (t, a, fl) => f t a fl (fl % 32)) := rfl
theorem Try.mkE (p : Addr) (w : World) : (ReflectliteValue.mk 64 p ReflectliteValue.flagAddr).run Try.prog w = .ok (.agg #[.pointer (some ⟨0, 64, none⟩), .pointer (some p), .int .u64 386]) w := by kernel_rfl
theorem rls (v x : Value) : ReflectliteValue.set #[v, x] = (do
    let (some (dst, a, fl), some (src, b, _)) := (← ReflectliteValue.parts v, ← ReflectliteValue.parts x)
      | unsupported (.noEntry "extern/(internal/reflectlite.Value).Set.zeroValue")
    if fl / ReflectliteValue.flagAddr % 2 == 0 then unsupported (.noEntry "extern/(internal/reflectlite.Value).Set.unaddressable")
    let val ← loadVar src b
    if ← Rtype.directlyAssignable dst src then storeVar dst a val
    else if ← Rtype.implements dst src then
      if (← Rtype.kind src) == 20 then
        match val with
        | .nilIface => unsupported (.noEntry "extern/reflectlite: a nil value of one interface type handed on as a value of another")
        | _ => storeVar dst a val
      else storeVar dst a (.iface src val)
    else panicString ("reflectlite.Set: value of type " ++ (← Rtype.spelt src) ++ " is not assignable to type " ++ (← Rtype.spelt dst))
    pure (.tuple #[])) := rfl
theorem Try.partsEa (a : Addr) (w : World) : (ReflectliteValue.parts (.agg #[.pointer (some ⟨0, 64, none⟩), .pointer (some a), .int .u64 386])).run Try.prog w = .ok (some (64, a, 386)) w := by kernel_rfl
theorem Try.partsE (a : Addr) (w : World) : (ReflectliteValue.parts (.agg #[.pointer (some ⟨0, 64, none⟩), .pointer (some a), .int .u64 130])).run Try.prog w = .ok (some (64, a, 130)) w := by kernel_rfl
theorem Try.directE (w : World) : (Rtype.directlyAssignable 64 64).run Try.prog w = .ok true w := by kernel_rfl
theorem Try.sizeE (w : World) : (sizeOf 64).run Try.prog w = .ok 1 w := by kernel_rfl
/-- (Value).Set: the Errno at 'ta' gets what the Value's own variable 'b' holds. -/
theorem Try.setE (ta b : Addr) (n : Int) (old : Value) (W : World) (hb : W.cell? b = some (.int .i64 n)) (ht : W.cell? ta = some old) (hf : W.frozen? ta = false) :
    (ReflectliteValue.set #[.agg #[.pointer (some ⟨0, 64, none⟩), .pointer (some ta), .int .u64 386], .agg #[.pointer (some ⟨0, 64, none⟩), .pointer (some b), .int .u64 130]]).run Try.prog W
      = .ok (.tuple #[]) (W.setCell ta (.int .i64 n)) := by
  rw [rls]
  simp only [Sem.run_bind, Try.partsEa, Try.partsE, Result.andThen]
  simp [ReflectliteValue.flagAddr, loadVar, isAgg, underlying, Try.underlying64, hb, Result.andThen, Try.directE, storeVar, Value.cells, storeCells, Addr.add]
  rw [run_store Try.prog W ta _ _ (by rfl)]
  simp [ht, hf]

end Go.Proofs.Ytoaahiclmodcgaa
