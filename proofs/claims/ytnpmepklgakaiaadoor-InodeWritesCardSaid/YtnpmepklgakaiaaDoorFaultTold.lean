/- parcloselaw05.Told, by its contract. -/
import Derived.Test.YtnpmepklgakaiaaDoorFaultAs2
namespace Go.Proofs.YtnpmepklgakaiaaDoor
open Go.RowKit Go.Extern.Stop Go.Stop Go.Extern
set_option linter.unusedVariables false

/-- '==' of two faults -/
theorem run_eqF (w : World) (a k a' k' : Int) : (binOp .eql 52 (.agg #[.int .i64 a, .int .i64 k]) (.agg #[.int .i64 a', .int .i64 k'])).run Tryd.prog w = .ok (.bool (a == a' && k == k')) w := by
  have hS : Tryd.prog.underlying 52 = some (.struct (Tryd.prog.fieldsOf 52)) := by kernel_rfl
  have hp : Tryd.prog.stoodInHeld 52 = false := by kernel_rfl
  rw [run_eql_struct, show (10000 : Nat) = 9999 + 1 from rfl, run_equalIn_agg w 9999 52 _ _ hS hp]
  simp only [Program.fieldsOf, Tryd.underlying52]
  go_simp
  by_cases h1 : a = a' <;> by_cases h2 : k = k' <;> simp [h1, h2]
theorem guard_eqF : Tryd.prog.eqGuardType Tryd.prog.depth 52 = false := by kernel_rfl
/-- what errors.As leaves at a fault: the target's cells, and all else below it -/
def AsOut (w : World) (tb : Nat) (a k : Int) (e : Ending) (w' : World) : Prop :=
  e = .returned (.bool true) ∧ w'.cell? ⟨tb, 0, none⟩ = some (.int .i64 a) ∧ w'.cell? ⟨tb, 1, none⟩ = some (.int .i64 k) ∧ Below tb w w' ∧ w.heap.size ≤ w'.heap.size
theorem as_out (a k : Int) (tb : Nat) (o0 o1 : Value) (w : World) (hg : Laid w) (ht0 : w.cell? ⟨tb, 0, none⟩ = some o0) (ht1 : w.cell? ⟨tb, 1, none⟩ = some o1) (hf0 : w.frozen? ⟨tb, 0, none⟩ = false) (hf1 : w.frozen? ⟨tb, 1, none⟩ = false) :
    Calls Tryd.prog 35 #[.iface 52 (.agg #[.int .i64 a, .int .i64 k]), .iface 73 (.pointer (some ⟨tb, 0, none⟩))] w (AsOut w tb a k) := by
  have htl : tb < w.heap.size := World.block_lt_of_cell? _ _ ht0
  refine (as_fault a k tb o0 o1 w hg ht0 ht1 hf0 hf1).mono ?_
  rintro e w' ⟨rfl, rfl⟩
  have hb : Below tb w (w3As w tb a k) := by
    unfold w3As w2As w1As
    refine Below.alloc (Below.alloc (Below.alloc (Below.alloc (Below.refl _ _) ?_ _) ?_ _) ?_ _) ?_ _
    all_goals first | omega | (simp; omega)
  have c0 : (w3As w tb a k).cell? ⟨tb, 0, none⟩ = some o0 := by
    unfold w3As w2As w1As; rw [World.cell?_alloc_lt _ _ _ (by simp; omega), World.cell?_alloc_lt _ _ _ (by simp; omega), World.cell?_alloc_lt _ _ _ (by simp; omega), World.cell?_alloc_lt _ _ _ htl]; exact ht0
  have c1 : (w3As w tb a k).cell? ⟨tb, 1, none⟩ = some o1 := by
    unfold w3As w2As w1As; rw [World.cell?_alloc_lt _ _ _ (by simp; omega), World.cell?_alloc_lt _ _ _ (by simp; omega), World.cell?_alloc_lt _ _ _ (by simp; omega), World.cell?_alloc_lt _ _ _ htl]; exact ht1
  have hz : w.heap.size ≤ (w3As w tb a k).heap.size := by unfold w3As w2As w1As; simp; omega
  generalize w3As w tb a k = W at *
  refine ⟨rfl, ?_, ?_, (hb.setCell (Nat.le_refl _) _).setCell (Nat.le_refl _) _, by simpa using hz⟩
  · rw [World.cell?_setCell_other _ _ _ _ (by simp)]
    exact World.cell?_setCell_same _ _ _ c0
  · exact World.cell?_setCell_same _ _ _ (by rw [World.cell?_setCell_other _ _ _ _ (by simp)]; exact c1)
/-- Told of no error -/
theorem told_nil (a k : Int) (w : World) :
    Calls Tryd.prog 22 #[.nilIface, .agg #[.int .i64 a, .int .i64 k]] w fun e w' => e = .returned (.bool (k == 0)) ∧ Below w.heap.size w w' := by
  by_cases hk : k = 0
  · subst hk
    go_enter Tryd.func22, Tryd.ntmps22
    go_wp2
    go_ret
    exact ⟨rfl, (Below.refl _ _).alloc (Nat.le_refl _) _⟩
  · have h1 : (k == 0) = false := by simpa using hk
    rw [h1]
    clear hk
    go_enter Tryd.func22, Tryd.ntmps22
    go_wp2
    go_ret
    exact ⟨rfl, (Below.refl _ _).alloc (Nat.le_refl _) _⟩
set_option maxHeartbeats 4000000 in
/-- Told of a fault -/
theorem told_fault (a k a' k' : Int) (w : World) (hg : Laid w) :
    Calls Tryd.prog 22 #[.iface 52 (.agg #[.int .i64 a, .int .i64 k]), .agg #[.int .i64 a', .int .i64 k']] w fun e w' => e = .returned (.bool (!(k' == 0) && (a == a' && k == k'))) ∧ Below w.heap.size w w' := by
  by_cases hk : k' = 0
  · subst hk
    go_enter Tryd.func22, Tryd.ntmps22
    go_wp2
    go_ret
    exact ⟨rfl, (Below.refl _ _).alloc (Nat.le_refl _) _⟩
  · have h1 : (k' == 0) = false := by simpa using hk
    rw [h1]
    have hB1 : Below w.heap.size w ((w.alloc (.cells #[.int .i64 a', .int .i64 k'] 52)).alloc (.cells #[.int .i64 0, .int .i64 0] 52)) := ((Below.refl _ _).alloc (Nat.le_refl _) _).alloc (by simp) _
    have hAs := as_out a k (w.heap.size + 1) (.int .i64 0) (.int .i64 0) ((w.alloc (.cells #[.int .i64 a', .int .i64 k'] 52)).alloc (.cells #[.int .i64 0, .int .i64 0] 52)) (hg.below hB1) (by simp) (by simp) (by simp) (by simp)
    have HAs := Lib.hid hAs
    have HB1 := Lib.hid hB1
    have hq := run_eqF
    have hgd := guard_eqF
    have hc0 : ((w.alloc (.cells #[.int .i64 a', .int .i64 k'] 52)).alloc (.cells #[.int .i64 0, .int .i64 0] 52)).cell? ⟨w.heap.size, 0, none⟩ = some (.int .i64 a') := by simp
    have hc1 : ((w.alloc (.cells #[.int .i64 a', .int .i64 k'] 52)).alloc (.cells #[.int .i64 0, .int .i64 0] 52)).cell? ⟨w.heap.size, 1, none⟩ = some (.int .i64 k') := by simp
    have HC0 := Lib.hid hc0
    have HC1 := Lib.hid hc1
    clear hk hAs hB1 hg hc0 hc1
    by_cases hq1 : a = a' ∧ k = k'
    · obtain ⟨rfl, rfl⟩ := hq1
      rw [beq_self_eq_true, beq_self_eq_true]
      go_enter Tryd.func22, Tryd.ntmps22
      go_wp2_with fail
      refine HAs.out.mono ?_
      rintro e w2 ⟨rfl, g0, g1, hb, hz⟩
      have f0 := (hb.cell (p := ⟨w.heap.size, 0, none⟩) (Nat.lt_succ_self w.heap.size)).trans HC0.out
      have f1 := (hb.cell (p := ⟨w.heap.size, 1, none⟩) (Nat.lt_succ_self w.heap.size)).trans HC1.out
      have HB2 := Lib.hid (HB1.out.trans (hb.mono (Nat.le_succ _)))
      clear hb hz
      go_wp2_with fail
      refine (is_fault a k _).mono ?_
      rintro e w3 ⟨rfl, hb3⟩
      have HB3 := Lib.hid (below_then HB2.out hb3)
      clear hb3
      go_wp2
      go_ret
      exact ⟨rfl, HB3.out⟩
    · have hne : (a == a' && k == k') = false := by
        by_cases e1 : a = a'
        · have e2 : k ≠ k' := fun h => hq1 ⟨e1, h⟩
          simp [e2]
        · simp [e1]
      rw [hne]
      clear hq1
      go_enter Tryd.func22, Tryd.ntmps22
      go_wp2_with fail
      refine HAs.out.mono ?_
      rintro e w2 ⟨rfl, g0, g1, hb, hz⟩
      have f0 := (hb.cell (p := ⟨w.heap.size, 0, none⟩) (Nat.lt_succ_self w.heap.size)).trans HC0.out
      have f1 := (hb.cell (p := ⟨w.heap.size, 1, none⟩) (Nat.lt_succ_self w.heap.size)).trans HC1.out
      have HB2 := Lib.hid (HB1.out.trans (hb.mono (Nat.le_succ _)))
      clear hb hz
      go_wp2
      go_ret
      exact ⟨rfl, HB2.out⟩
end Go.Proofs.YtnpmepklgakaiaaDoor
