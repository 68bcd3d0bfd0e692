/- errors.As at an api.Fault, by its contract. -/
import Derived.Test.YtnpmepklgakaiaaDoorFaultAs
namespace Go.Proofs.YtnpmepklgakaiaaDoor
open Go.RowKit Go.Extern.Stop Go.Stop Go.Extern
set_option linter.unusedVariables false

/-- the Value of a pointer to a Fault -/
abbrev vP (h : Nat) : Array Value := #[.pointer (some ⟨1, 73, none⟩), .pointer (some ⟨h, 0, none⟩), .int .u64 150]
abbrev w1As (w : World) (tb : Nat) : World := (w.alloc (.cells #[.pointer (some ⟨tb, 0, none⟩)] 73)).alloc (.cells (vP w.heap.size) 87)
abbrev w2As (w : World) (tb : Nat) : World := (w1As w tb).alloc (.cells (vP w.heap.size) 87)
abbrev w3As (w : World) (tb : Nat) (a k : Int) : World := (w2As w tb).alloc (.cells #[.int .i64 a, .int .i64 k] 52)

set_option maxRecDepth 100000 in
set_option maxHeartbeats 8000000 in
theorem as_fault (a k : Int) (tb : Nat) (o0 o1 : Value) (w : World) (hg : Laid w) (ht0 : w.cell? ⟨tb, 0, none⟩ = some o0) (ht1 : w.cell? ⟨tb, 1, none⟩ = some o1) (hf0 : w.frozen? ⟨tb, 0, none⟩ = false) (hf1 : w.frozen? ⟨tb, 1, none⟩ = false) :
    Calls Tryd.prog 35 #[.iface 52 (.agg #[.int .i64 a, .int .i64 k]), .iface 73 (.pointer (some ⟨tb, 0, none⟩))] w fun ev w' => ev = .returned (.bool true) ∧ w' = ((w3As w tb a k).setCell ⟨tb, 0, none⟩ (.int .i64 a)).setCell ⟨tb, 1, none⟩ (.int .i64 k) := by
  have h6 := @run_callFunc_extern Tryd.prog 45 _ (fun args => ReflectliteValue.unpack (args.getD 0 (.tuple #[]))) Tryd.func45 (by kernel_rfl) (by kernel_rfl) (by kernel_rfl) (by kernel_rfl)
  have h7 := @run_callFunc_extern Tryd.prog 46 _ entType Tryd.func46 (by kernel_rfl) (by kernel_rfl) (by kernel_rfl) (by kernel_rfl)
  have h8 := @run_callFunc_extern Tryd.prog 47 _ entIsNil Tryd.func47 (by kernel_rfl) (by kernel_rfl) (by kernel_rfl) (by kernel_rfl)
  have h27 := @run_callFunc_extern Tryd.prog 74 _ entKind Tryd.func74 (by kernel_rfl) (by kernel_rfl) (by kernel_rfl) (by kernel_rfl)
  have h37 := @run_callFunc_extern Tryd.prog 86 _ entElem Tryd.func86 (by kernel_rfl) (by kernel_rfl) (by kernel_rfl) (by kernel_rfl)
  have h38 := @run_callFunc_extern Tryd.prog 87 _ entImpl Tryd.func87 (by kernel_rfl) (by kernel_rfl) (by kernel_rfl) (by kernel_rfl)
  have h10 := @run_callFunc_extern Tryd.prog 49 _ ReflectliteType.typeOf Tryd.func49 (by kernel_rfl) (by kernel_rfl) (by kernel_rfl) (by kernel_rfl)
  have h35 := @run_callFunc_extern Tryd.prog 84 _ entAssign Tryd.func84 (by kernel_rfl) (by kernel_rfl) (by kernel_rfl) (by kernel_rfl)
  have h11 := @run_callFunc_extern Tryd.prog 55 _ entElemV Tryd.func55 (by kernel_rfl) (by kernel_rfl) (by kernel_rfl) (by kernel_rfl)
  have h12 := @run_callFunc_extern Tryd.prog 56 _ ReflectliteValue.set Tryd.func56 (by kernel_rfl) (by kernel_rfl) (by kernel_rfl) (by kernel_rfl)
  have tO := typeOfF
  have mA := methodAssignableTo
  have a25 := assignF
  have v25 := valueOfF
  have f6 := valueOfP
  have f7 := typeP
  have mK := methodKind
  have mE := methodElem
  have mI := methodImplements
  have k27 := kindP
  have k25 := kindF
  have e27 := elemP
  have i25 := implF
  have hlt := hg.lt
  have htl : tb < w.heap.size := World.block_lt_of_cell? _ _ ht0
  have n8 := isNilP ⟨w.heap.size, 0, none⟩ ⟨tb, 0, none⟩ (w1As w tb) (by simp [w1As])
  have hg2 : (w1As w tb).cell? ⟨0, 0, none⟩ = some (.iface 104 (.agg #[.pointer (some ⟨1, 40, none⟩)])) := by
    unfold w1As
    rw [World.cell?_alloc_lt _ _ ⟨0, 0, none⟩ (by simp), World.cell?_alloc_lt _ _ ⟨0, 0, none⟩ hlt]; exact hg
  have el := elemVP ⟨w.heap.size, 0, none⟩ ⟨tb, 0, none⟩ (w2As w tb) (by unfold w2As w1As; rw [World.cell?_alloc_lt _ _ ⟨w.heap.size, 0, none⟩ (by simp; omega)]; simp)
  have st := setF tb 0 (w.heap.size + 1 + 1 + 1) a k o0 o1 (w3As w tb a k)
    (by unfold w3As; rw [World.cell?_alloc_at _ _ _ _ (by simp [w2As, w1As])]; rfl)
    (by unfold w3As; rw [World.cell?_alloc_at _ _ _ _ (by simp [w2As, w1As])]; rfl)
    (by unfold w3As w2As w1As; rw [World.cell?_alloc_lt _ _ _ (by simp; omega), World.cell?_alloc_lt _ _ _ (by simp; omega), World.cell?_alloc_lt _ _ _ (by simp; omega), World.cell?_alloc_lt _ _ _ htl]; exact ht0)
    (by unfold w3As w2As w1As; rw [World.cell?_alloc_lt _ _ _ (by simp; omega), World.cell?_alloc_lt _ _ _ (by simp; omega), World.cell?_alloc_lt _ _ _ (by simp; omega), World.cell?_alloc_lt _ _ _ htl]; exact ht1)
    (by unfold w3As w2As w1As; rw [World.frozen?_alloc_old _ _ _ (by simp; omega), World.frozen?_alloc_old _ _ _ (by simp; omega), World.frozen?_alloc_old _ _ _ (by simp; omega), World.frozen?_alloc_old _ _ _ (Nat.ne_of_lt htl)]; exact hf0)
    (by unfold w3As w2As w1As; rw [World.frozen?_alloc_old _ _ _ (by simp; omega), World.frozen?_alloc_old _ _ _ (by simp; omega), World.frozen?_alloc_old _ _ _ (by simp; omega), World.frozen?_alloc_old _ _ _ (Nat.ne_of_lt htl)]; exact hf1)
  dsimp only [w1As, w2As, w3As, vP] at *
  go_enter Tryd.func35, Tryd.ntmps35
  go_wp2
  refine wp_loop_rounds 1 ?_
  rw [rounds_succ]
  go_wp2
  go_ret
  exact ⟨rfl, rfl⟩
end Go.Proofs.YtnpmepklgakaiaaDoor
