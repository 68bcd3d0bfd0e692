/- errors.As of api.Fault: Go's own text, walked; parcloselaw05.Told. -/
import Derived.Test.YtnpmepklgakaiaaDoorFaultIs
namespace Go.Proofs.YtnpmepklgakaiaaDoor
open Go.RowKit Go.Extern.Stop Go.Stop Go.Extern
set_option linter.unusedVariables false

/-- the handle of the type 'error' lies in its variable -/
def Laid (w : World) : Prop := w.cell? ⟨0, 0, none⟩ = some (.iface 104 (.agg #[.pointer (some ⟨1, 40, none⟩)]))
theorem Laid.lt {w : World} (h : Laid w) : 0 < w.heap.size := World.block_lt_of_cell? _ _ h
theorem Laid.below {w w' : World} (h : Laid w) (hb : Below w.heap.size w w') : Laid w' := (hb.cell h.lt).trans h

theorem valueOfP (t : Addr) (w : World) : (ReflectliteValue.unpack (.iface 73 (.pointer (some t)))).run Tryd.prog w
    = .ok (.agg #[.pointer (some ⟨1, 73, none⟩), .pointer (some ⟨w.heap.size, 0, none⟩), .int .u64 150]) (w.alloc (.cells #[.pointer (some t)] 73)) := by kernel_rfl
def entType : Array Value → Sem Value := ReflectliteValue.methodAny (ReflectliteValue.valueError "reflectlite.Value.Type" 0) fun t _ _ _ => ReflectliteType.toType t
theorem typeP (a : Addr) (w : World) : (entType #[.agg #[.pointer (some ⟨1, 73, none⟩), .pointer (some a), .int .u64 150]]).run Tryd.prog w
    = .ok (.iface 104 (.agg #[.pointer (some ⟨1, 73, none⟩)])) w := by kernel_rfl
theorem methodKind (d : Nat) (h : Value) (w : World) : (Go.method (d + 4) 104 (.agg #[h]) "Kind").run Tryd.prog w = .ok (74, h) w := by kernel_rfl
def entKind : Array Value → Sem Value := ReflectliteType.abiMethod fun t => do pure (.int .u8 (← Go.Extern.Rtype.kind t))
theorem kindP (w : World) : (entKind #[.pointer (some ⟨1, 73, none⟩)]).run Tryd.prog w = .ok (.int .u8 22) w := by kernel_rfl
theorem kindF (w : World) : (entKind #[.pointer (some ⟨1, 52, none⟩)]).run Tryd.prog w = .ok (.int .u8 25) w := by kernel_rfl
def entIsNil : Array Value → Sem Value := ReflectliteValue.method (ReflectliteValue.valueError "reflectlite.Value.IsNil" 0) ReflectliteValue.isNil
theorem rlm (z : Sem Value) (f : TypeId → Addr → Nat → Nat → Sem Value) (v : Value) :
    ReflectliteValue.method z f #[v] = (do match ← ReflectliteValue.parts v with | none => z | some (t, a, fl) => f t a fl (fl % 32)) := rfl
theorem partsP (a : Addr) (w : World) : (ReflectliteValue.parts (.agg #[.pointer (some ⟨1, 73, none⟩), .pointer (some a), .int .u64 150])).run Tryd.prog w = .ok (some (73, a, 150)) w := by kernel_rfl
theorem isNilP (a p : Addr) (W : World) (ha : W.cell? a = some (.pointer (some p))) :
    (entIsNil #[.agg #[.pointer (some ⟨1, 73, none⟩), .pointer (some a), .int .u64 150]]).run Tryd.prog W = .ok (.bool false) W := by
  unfold entIsNil
  rw [rlm]
  simp only [Sem.run_bind, partsP, Result.andThen]
  simp [ReflectliteValue.isNil, loadVar, isAgg, underlying, Tryd.underlying73, ha, Result.andThen]
theorem methodElem (d : Nat) (h : Value) (w : World) : (Go.method (d + 4) 104 (.agg #[h]) "Elem").run Tryd.prog w = .ok (86, .agg #[h]) w := by kernel_rfl
theorem methodImplements (d : Nat) (h : Value) (w : World) : (Go.method (d + 4) 104 (.agg #[h]) "Implements").run Tryd.prog w = .ok (87, .agg #[h]) w := by kernel_rfl
theorem methodAssignableTo (d : Nat) (h : Value) (w : World) : (Go.method (d + 4) 104 (.agg #[h]) "AssignableTo").run Tryd.prog w = .ok (84, .agg #[h]) w := by kernel_rfl
def entElem : Array Value → Sem Value := ReflectliteType.method ReflectliteType.elem
theorem elemP (w : World) : (entElem #[.agg #[.pointer (some ⟨1, 73, none⟩)]]).run Tryd.prog w = .ok (.iface 104 (.agg #[.pointer (some ⟨1, 52, none⟩)])) w := by kernel_rfl
def entImpl : Array Value → Sem Value := ReflectliteType.relation "Implements" ReflectliteType.implements_
theorem implF (w : World) : (entImpl #[.agg #[.pointer (some ⟨1, 52, none⟩)], .iface 104 (.agg #[.pointer (some ⟨1, 40, none⟩)])]).run Tryd.prog w = .ok (.bool true) w := by kernel_rfl
theorem typeOfF (v : Value) (w : World) : (ReflectliteType.typeOf #[.iface 52 v]).run Tryd.prog w = .ok (.iface 104 (.agg #[.pointer (some ⟨1, 52, none⟩)])) w := by kernel_rfl
def entAssign : Array Value → Sem Value := ReflectliteType.relation "AssignableTo" ReflectliteType.assignableTo
theorem assignF (w : World) : (entAssign #[.agg #[.pointer (some ⟨1, 52, none⟩)], .iface 104 (.agg #[.pointer (some ⟨1, 52, none⟩)])]).run Tryd.prog w = .ok (.bool true) w := by kernel_rfl
theorem valueOfF (a k : Int) (w : World) : (ReflectliteValue.unpack (.iface 52 (.agg #[.int .i64 a, .int .i64 k]))).run Tryd.prog w
    = .ok (.agg #[.pointer (some ⟨1, 52, none⟩), .pointer (some ⟨w.heap.size, 0, none⟩), .int .u64 153]) (w.alloc (.cells #[.int .i64 a, .int .i64 k] 52)) := by kernel_rfl
theorem elemOfP (w : World) : (Go.Extern.Rtype.elem? 73).run Tryd.prog w = .ok (some 52) w := by kernel_rfl
theorem mkF (p : Addr) (w : World) : (ReflectliteValue.mk 52 p ReflectliteValue.flagAddr).run Tryd.prog w = .ok (.agg #[.pointer (some ⟨1, 52, none⟩), .pointer (some p), .int .u64 409]) w := by kernel_rfl
def entElemV : Array Value → Sem Value := ReflectliteValue.method (ReflectliteValue.valueError "reflectlite.Value.Elem" 0) ReflectliteValue.elem
theorem elemVP (a p : Addr) (W : World) (ha : W.cell? a = some (.pointer (some p))) :
    (entElemV #[.agg #[.pointer (some ⟨1, 73, none⟩), .pointer (some a), .int .u64 150]]).run Tryd.prog W
      = .ok (.agg #[.pointer (some ⟨1, 52, none⟩), .pointer (some p), .int .u64 409]) W := by
  unfold entElemV
  rw [rlm]
  simp only [Sem.run_bind, partsP, Result.andThen]
  simp [ReflectliteValue.elem, loadVar, isAgg, underlying, Tryd.underlying73, ha, Result.andThen, elemOfP, mkF]
theorem rls (v x : Value) : ReflectliteValue.set #[v, x] = (do
    let (some (dst, a, fl), some (src, b, _)) := (← ReflectliteValue.parts v, ← ReflectliteValue.parts x)
      | unsupported (.noEntry "extern/(internal/reflectlite.Value).Set.zeroValue")
    if fl / ReflectliteValue.flagAddr % 2 == 0 then unsupported (.noEntry "extern/(internal/reflectlite.Value).Set.unaddressable")
    let val ← loadVar src b
    if ← Go.Extern.Rtype.directlyAssignable dst src then storeVar dst a val
    else if ← Go.Extern.Rtype.implements dst src then
      if (← Go.Extern.Rtype.kind src) == 20 then
        match val with
        | .nilIface => unsupported (.noEntry "extern/reflectlite: a nil value of one interface type handed on as a value of another")
        | _ => storeVar dst a val
      else storeVar dst a (.iface src val)
    else panicString ("reflectlite.Set: value of type " ++ (← Go.Extern.Rtype.spelt src) ++ " is not assignable to type " ++ (← Go.Extern.Rtype.spelt dst))
    pure (.tuple #[])) := rfl
theorem partsFa (a : Addr) (w : World) : (ReflectliteValue.parts (.agg #[.pointer (some ⟨1, 52, none⟩), .pointer (some a), .int .u64 409])).run Tryd.prog w = .ok (some (52, a, 409)) w := by kernel_rfl
theorem partsF (a : Addr) (w : World) : (ReflectliteValue.parts (.agg #[.pointer (some ⟨1, 52, none⟩), .pointer (some a), .int .u64 153])).run Tryd.prog w = .ok (some (52, a, 153)) w := by kernel_rfl
theorem directF (w : World) : (Go.Extern.Rtype.directlyAssignable 52 52).run Tryd.prog w = .ok true w := by kernel_rfl
/-- (Value).Set: the variable at t gets what the Value's own variable holds -/
theorem setF (tb to b : Nat) (a k : Int) (o0 o1 : Value) (W : World) (hb0 : W.cell? ⟨b, 0, none⟩ = some (.int .i64 a)) (hb1 : W.cell? ⟨b, 1, none⟩ = some (.int .i64 k))
    (ht0 : W.cell? ⟨tb, to, none⟩ = some o0) (ht1 : W.cell? ⟨tb, to + 1, none⟩ = some o1) (hf0 : W.frozen? ⟨tb, to, none⟩ = false) (hf1 : W.frozen? ⟨tb, to + 1, none⟩ = false) :
    (ReflectliteValue.set #[.agg #[.pointer (some ⟨1, 52, none⟩), .pointer (some ⟨tb, to, none⟩), .int .u64 409], .agg #[.pointer (some ⟨1, 52, none⟩), .pointer (some ⟨b, 0, none⟩), .int .u64 153]]).run Tryd.prog W
      = .ok (.tuple #[]) ((W.setCell ⟨tb, to, none⟩ (.int .i64 a)).setCell ⟨tb, to + 1, none⟩ (.int .i64 k)) := by
  rw [rls]
  simp only [Sem.run_bind, partsFa, partsF, Result.andThen]
  simp [ReflectliteValue.flagAddr, loadVar, isAgg, underlying, Tryd.underlying52, Result.andThen, directF]
  go_simp
end Go.Proofs.YtnpmepklgakaiaaDoor
