/- parcloseref16: Commit, Same; parcloselaw16.Large; redo.Lay. -/
import Derived.Test.YtlfnpjdnfkcigaaDoorRedoA
namespace Go.Proofs.YtlfnpjdnfkcigaaDoor
open Go.RowKit
set_option linter.unusedVariables false

/-- the commit word of a list -/
def rcommit (l : List Rdo) : Nat := l.length + 20992 + wsum (rbody l) * 4294967296
theorem rbody_wd {l : List Rdo} (h : ∀ r ∈ l, mayOne r ∧ r.w < 18446744073709551616) : Wd (rbody l) := rbody_lt h

theorem large_any (v : Value) (l : List Rdo) (w : World) (hr : Rd w v l.length (rcells l)) :
    Calls Tryd.prog 8 #[v] w fun e w' => e = .returned (.bool (decide (300 < l.length))) ∧ w = w' := by
  obtain ⟨A, c, rfl, h1, h2, h3⟩ := hr
  clear h3
  go_enter Tryd.func8, Tryd.ntmps8
  go_wp2
  go_ret
  exact ⟨ret_bool (by simp; omega), rfl⟩

set_option maxRecDepth 100000 in
set_option maxHeartbeats 4000000 in
theorem refCommit_any (v : Value) (l : List Rdo) (w : World) (hr : Rd w v l.length (rcells l)) (ho : ∀ r ∈ l, mayOne r ∧ r.w < 18446744073709551616) (hl : l.length ≤ 64) :
    Calls Tryd.prog 14 #[v] w fun e w' => e = .returned (.int .u64 (rcommit l : Nat)) ∧ Below w.heap.size w w' := by
  have HR := Lib.hid hr
  have HO := Lib.hid ho
  obtain ⟨A, c, rfl, h1, h2, h3⟩ := hr
  clear h3 ho
  go_enter Tryd.func14, Tryd.ntmps14
  go_wp2_with fail
  refine (refBody_any _ l _ HR.out (fun r h => (HO.out r h).1) hl).mono ?_
  rintro e w1 ⟨A1, c1, rfl, ho1, hb1⟩
  have hrd : Rd w1 (.slice A1 (l.length * 2) c1) (rbody l).length (u64s (rbody l)) := by rw [rbody_length]; exact Rd.of_own ho1
  have HD := Lib.hid hrd
  have HB := Lib.hid hb1
  clear ho1 hb1 hrd
  go_wp2_with fail
  refine (refWords_any _ (rbody l) _ HD.out (rbody_wd HO.out) (by rw [rbody_length]; omega)).mono ?_
  rintro e w2 ⟨rfl, hb2⟩
  have HB2 := Lib.hid (below_then HB.out hb2)
  have hs := wsum_lt (rbody l)
  obtain ⟨s, hse⟩ : ∃ s, s = wsum (rbody l) := ⟨_, rfl⟩
  rw [← hse] at hs ⊢
  have Hse := Lib.hid hse
  clear hb2 hse
  go_wp2
  go_ret
  exact ⟨ret_int (by unfold rcommit; rw [← Hse.out]; omega), HB2.out⟩
end Go.Proofs.YtlfnpjdnfkcigaaDoor
