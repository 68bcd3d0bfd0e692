/- errors.Is of api.Fault and api.Errno: Go's own text, walked. -/
import Derived.Test.YtnpmepklgakaiaaDoorChecked
import Derived.Test.YtnpmepklgakaiaaDoorMem
import Derived.LaidEql
import Derived.Stop.Asserts
namespace Go.Proofs.YtnpmepklgakaiaaDoor
open Go.RowKit Go.Extern.Stop Go.Stop Go.Extern
set_option linter.unusedVariables false

abbrev tE := 29
abbrev tF := 52
abbrev tR := 104
theorem isTypeOf (v : Value) (w : World) : (Extern.ReflectliteType.typeOf #[.iface 29 v]).run Tryd.prog w = .ok (.iface 104 (.agg #[.pointer (some ⟨1, 29, none⟩)])) w := by kernel_rfl
/-- the model's entry -/
def entComparable : Array Value → Sem Value := Extern.ReflectliteType.method fun t => do Go.Extern.Rtype.noPackHeld "Comparable" t; pure (.bool (← typeInfo t).comparable)
theorem isComparable (w : World) : (entComparable #[.agg #[.pointer (some ⟨1, 29, none⟩)]]).run Tryd.prog w = .ok (.bool true) w := by kernel_rfl
theorem methodComparable (d : Nat) (v : Value) (w : World) : (Go.method (d + 4) 104 v "Comparable").run Tryd.prog w = .ok (85, v) w := by kernel_rfl
theorem noIsE (v : Value) (xT : TypeId) (w : World) : (Instr.typeAssert (.iface 29 v) xT 116 true).run Tryd.prog w = .ok (.tuple #[.nilIface, .bool false]) w := run_typeAssert_lacksB Tryd.underlying116 (by kernel_rfl) (by kernel_rfl) v xT w
theorem noUnwrapE (v : Value) (xT : TypeId) (w : World) : (Instr.typeAssert (.iface 29 v) xT 111 true).run Tryd.prog w = .ok (.tuple #[.nilIface, .bool false]) w := run_typeAssert_lacksB Tryd.underlying111 (by kernel_rfl) (by kernel_rfl) v xT w
theorem noUnwrapsE (v : Value) (xT : TypeId) (w : World) : (Instr.typeAssert (.iface 29 v) xT 113 true).run Tryd.prog w = .ok (.tuple #[.nilIface, .bool false]) w := run_typeAssert_lacksB Tryd.underlying113 (by kernel_rfl) (by kernel_rfl) v xT w
theorem noIsF (v : Value) (xT : TypeId) (w : World) : (Instr.typeAssert (.iface 52 v) xT 116 true).run Tryd.prog w = .ok (.tuple #[.nilIface, .bool false]) w := run_typeAssert_lacksB Tryd.underlying116 (by kernel_rfl) (by kernel_rfl) v xT w
theorem hasUnwrapF (v : Value) (xT : TypeId) (w : World) : (Instr.typeAssert (.iface 52 v) xT 111 true).run Tryd.prog w = .ok (.tuple #[.iface 52 v, .bool true]) w := run_typeAssert_hasB Tryd.underlying111 (by kernel_rfl) v xT w
theorem methodUnwrap (d : Nat) (v : Value) (w : World) : (Go.method (d + 4) 52 v "Unwrap").run Tryd.prog w = .ok (79, v) w := by kernel_rfl
theorem run_eqE (w : World) (a b : Int) : (binOp .eql 40 (.iface 29 (.int .i64 a)) (.iface 29 (.int .i64 b))).run Tryd.prog w = .ok (.bool (a == b)) w := by kernel_rfl

/-- errors.Is(nil, k) -/
theorem is_nil (k : Int) (w : World) :
    Calls Tryd.prog 36 #[.nilIface, .iface 29 (.int .i64 k)] w fun e w' => e = .returned (.bool false) ∧ w = w' := by
  have hn := run_eql_iface_nil_left (P := Tryd.prog) w 29 (.int .i64 k) Tryd.underlying40
  go_enter Tryd.func36, Tryd.ntmps36
  go_wp2
  go_ret
  exact ⟨rfl, rfl⟩
/-- errors.Is(k, k) -/
theorem is_errno (k : Int) (w : World) :
    Calls Tryd.prog 36 #[.iface 29 (.int .i64 k), .iface 29 (.int .i64 k)] w fun e w' => e = .returned (.bool true) ∧ w = w' := by
  have hT := @run_callFunc_extern Tryd.prog 49 _ Extern.ReflectliteType.typeOf Tryd.func49 (by kernel_rfl) (by kernel_rfl) (by kernel_rfl) (by kernel_rfl)
  have hC := @run_callFunc_extern Tryd.prog 85 _ entComparable Tryd.func85 (by kernel_rfl) (by kernel_rfl) (by kernel_rfl) (by kernel_rfl)
  have tT := isTypeOf
  have cT := isComparable
  have mR := methodComparable
  have heq := run_eqE w k k
  rw [beq_self_eq_true] at heq
  go_enter Tryd.func36, Tryd.ntmps36
  go_wp2
  refine wp_loop_rounds 1 ?_
  rw [rounds_succ]
  go_wp2
  go_ret
  exact ⟨rfl, rfl⟩
/-- (Fault).Unwrap -/
theorem unwrap_any (a k : Int) (w : World) : Calls Tryd.prog 79 #[.agg #[.int .i64 a, .int .i64 k]] w fun e w' => e = .returned (.iface 29 (.int .i64 k)) ∧ Below w.heap.size w w' := by
  go_enter Tryd.func79, Tryd.ntmps79
  go_wp2
  go_ret
  exact ⟨rfl, (Below.refl _ _).alloc (Nat.le_refl _) _⟩
/-- errors.Is(a fault of k, k) -/
theorem is_fault (a k : Int) (w : World) :
    Calls Tryd.prog 36 #[.iface 52 (.agg #[.int .i64 a, .int .i64 k]), .iface 29 (.int .i64 k)] w fun e w' => e = .returned (.bool true) ∧ Below w.heap.size w w' := by
  have hT := @run_callFunc_extern Tryd.prog 49 _ Extern.ReflectliteType.typeOf Tryd.func49 (by kernel_rfl) (by kernel_rfl) (by kernel_rfl) (by kernel_rfl)
  have hC := @run_callFunc_extern Tryd.prog 85 _ entComparable Tryd.func85 (by kernel_rfl) (by kernel_rfl) (by kernel_rfl) (by kernel_rfl)
  have tT := isTypeOf
  have cT := isComparable
  have mR := methodComparable
  have nF := noIsF
  have uF := hasUnwrapF
  have mU := methodUnwrap
  have heq := fun W => run_eqE W k k
  simp only [beq_self_eq_true] at heq
  have hty := run_eql_iface_types (P := Tryd.prog) 52 29 (.agg #[.int .i64 a, .int .i64 k]) (.int .i64 k) Tryd.underlying40 (by decide) w
  go_enter Tryd.func36, Tryd.ntmps36
  go_wp2
  refine wp_loop_rounds 2 ?_
  rw [rounds_succ]
  go_wp2_with fail
  refine (unwrap_any a k _).mono ?_
  rintro e w2 ⟨rfl, hb⟩
  have Hb := Lib.hid hb
  clear hb
  go_wp2
  rw [rounds_succ]
  go_wp2
  go_ret
  exact ⟨rfl, Hb.out⟩
end Go.Proofs.YtnpmepklgakaiaaDoor
