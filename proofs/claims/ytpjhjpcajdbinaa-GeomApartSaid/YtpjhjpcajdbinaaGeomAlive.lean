/- The law's alive. -/
import Derived.Test.YtpjhjpcajdbinaaGeomWhatC
import Derived.Test.YtpjhjpcajdbinaaGeomInode
import Derived.Laws.StructEq
namespace Go.Proofs.Ytpjhjpcajdbinaa
open Go.RowKit
set_option linter.unusedVariables false

/-- '==' of two regions -/
theorem run_eqR (w : World) (k n o k' n' o' : Int) : (binOp .eql 25 (.agg #[.int .u8 k, .int .i64 n, .int .i64 o]) (.agg #[.int .u8 k', .int .i64 n', .int .i64 o'])).run Try.prog w = .ok (.bool (k == k' && (n == n' && o == o'))) w := by
  have hS : Try.prog.underlying 25 = some (.struct (Try.prog.fieldsOf 25)) := by kernel_rfl
  have hp : Try.prog.stoodInHeld 25 = false := by kernel_rfl
  rw [run_eql_struct, show (10000 : Nat) = 9999 + 1 from rfl, run_equalIn_agg w 9999 25 _ _ hS hp]
  simp only [Program.fieldsOf, Try.underlying25]
  go_simp
  by_cases h1 : k = k' <;> by_cases h2 : n = n' <;> by_cases h3 : o = o' <;> simp [h1, h2, h3]
theorem guard_eqR : Try.prog.eqGuardType Try.prog.depth 25 = false := by kernel_rfl

theorem al1 : linesOut 1 2 4 = (37, 0) := by decide +kernel
theorem al2 : blockOut 1 2 4 1 = (168, 0) := by decide +kernel
theorem al3 : regOf 1 2 295 = (5, 4, 31) := by decide +kernel
theorem may124 : MayG 1 2 4 := by unfold MayG; omega
theorem may000 : ¬ MayG 0 0 0 := by unfold MayG; omega

set_option maxHeartbeats 4000000 in
theorem alive_any (w : World) : Calls Try.prog 9 #[] w fun e w' => e = .returned (.bool true) ∧ Below w.heap.size w w' := by
  have hL : ∀ W, Calls Try.prog 11 #[gv 1 2 4] W (Out2 W 37 0) := fun W => by have := Lines_any 1 2 4 W; rwa [al1] at this
  have hB : ∀ W, Calls Try.prog 15 #[gv 1 2 4, .int .i64 1] W (Out2 W 168 0) := fun W => by have := Block_any 1 2 4 1 (by unfold I64; omega) (by unfold I64; omega) W; rwa [al2] at this
  have hW : ∀ W, Calls Try.prog 7 #[gv 1 2 4, .int .i64 295] W (OutR W 5 4 31 0) := fun W => by have := What_yes 1 2 4 295 may124 (by omega) (by unfold linesOf; omega) W; rwa [al3] at this
  have hN : ∀ W, Calls Try.prog 7 #[gv 1 2 4, .int .i64 296] W (OutR W 0 0 0 3) := fun W => What_none 1 2 4 296 may124 (by unfold linesOf; omega) W
  have hC : ∀ W, Calls Try.prog 16 #[gv 0 0 0] W fun e w' => e = .returned (.int .i64 2) ∧ Below W.heap.size W w' := fun W => Check_no 0 0 0 may000 W
  unfold gv at hL hB hW hN hC
  have HL := Lib.hid hL
  have HB := Lib.hid hB
  have HW := Lib.hid hW
  have HN := Lib.hid hN
  have HC := Lib.hid hC
  clear hL hB hW hN hC
  have hbx : Below w.heap.size w (w.alloc (.cells #[.int .i64 1, .int .i64 2, .int .i64 4] 23)) := (Below.refl _ _).alloc (Nat.le_refl _) _
  have hgx := heap_alloc_new w (.cells #[.int .i64 1, .int .i64 2, .int .i64 4] 23)
  have HBx := Lib.hid hbx
  have HGx := Lib.hid hgx
  clear hbx hgx
  have hq := run_eqR
  have hg := guard_eqR
  go_enter Try.func9, Try.ntmps9
  go_wp2_with fail
  refine (HL.out _).mono ?_
  rintro e w1 ⟨rfl, hb⟩
  have HG1 := Lib.hid (blk_below HGx.out hb)
  have HB1 := Lib.hid (below_on HBx.out (Nat.le_refl _) hb)
  clear hb
  obtain ⟨g0, g1, g2, _, _, _⟩ := blk3 HG1.out
  go_wp2_with fail
  refine (HB.out _).mono ?_
  rintro e w2 ⟨rfl, hb⟩
  have HG2 := Lib.hid (blk_below HG1.out hb)
  have HB2 := Lib.hid (below_on HB1.out (Nat.le_refl _) hb)
  clear hb g0 g1 g2 HB1 HG1
  obtain ⟨g0, g1, g2, _, _, _⟩ := blk3 HG2.out
  go_wp2_with fail
  refine (HW.out _).mono ?_
  rintro e w3 ⟨rfl, hb⟩
  have HG3 := Lib.hid (blk_below HG2.out hb)
  have HB3 := Lib.hid (below_on HB2.out (Nat.le_refl _) hb)
  have hlt : w.heap.size < w3.heap.size := (Array.getElem?_eq_some_iff.1 HG3.out).1
  clear hb g0 g1 g2 HB2 HG2
  obtain ⟨g0, g1, g2, _, _, _⟩ := blk3 HG3.out
  go_wp2_with fail
  refine (HN.out _).mono ?_
  rintro e w4 ⟨rfl, hb⟩
  have hx4 := blk_below (heap_alloc_new w3 _) hb
  have HB4 := Lib.hid (below_on (below_alloc HB3.out (Nat.le_refl _) _) (Nat.le_refl _) hb)
  have hlt4 : w3.heap.size < w4.heap.size := (Array.getElem?_eq_some_iff.1 hx4).1
  clear hb g0 g1 g2 HB3 HG3
  obtain ⟨g0, g1, g2, _, _, _⟩ := blk3 hx4
  clear hx4
  go_wp2_with fail
  refine (HC.out _).mono ?_
  rintro e w5 ⟨rfl, hb⟩
  have hb5 := below_on (below_alloc HB4.out (Nat.le_refl _) _) (Nat.le_refl _) hb
  clear hb
  go_wp2
  go_ret
  exact ⟨rfl, hb5⟩
end Go.Proofs.Ytpjhjpcajdbinaa
