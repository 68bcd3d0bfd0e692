/- (inode.told).may, by cases on the place and the kind. -/
import Derived.Test.YtnpmepklgakaiaaDoorInodeA
import Derived.Test.YtnpmepklgakaiaaDoorGeomBlk
namespace Go.Proofs.YtnpmepklgakaiaaDoor
open Go.RowKit
set_option linter.unusedVariables false

set_option maxRecDepth 100000 in
set_option maxHeartbeats 16000000 in
theorem may_any (t : List Nat) (ht : t.length = 7) (hw : ∀ x ∈ t, x < 18446744073709551616) (p : Nat) (hp : p < 7) (k : Nat) (hk : k < 256) (P : Int) (I B : Nat) (hB : B < 65536) (W : World) :
    Calls Tryd.prog 34 #[tv t, .int .i64 (p : Nat), .int .u8 (k : Nat), .agg #[.int .i64 P, .int .i64 (I : Nat), .int .i64 (B : Nat)]] W fun e W' => e = .returned (.bool (wordOK p k (t.getD p 0) I B)) ∧ Below W.heap.size W W' := by
  match t, ht with
  | [a0, a1, a2, a3, a4, a5, a6], _ =>
    have w0 : a0 < 18446744073709551616 := hw a0 (by simp)
    have w1 : a1 < 18446744073709551616 := hw a1 (by simp)
    have w2 : a2 < 18446744073709551616 := hw a2 (by simp)
    have w3 : a3 < 18446744073709551616 := hw a3 (by simp)
    have w4 : a4 < 18446744073709551616 := hw a4 (by simp)
    have w5 : a5 < 18446744073709551616 := hw a5 (by simp)
    have w6 : a6 < 18446744073709551616 := hw a6 (by simp)
    have HF := Lib.hid (fun W => first_any [a0, a1, a2, a3, a4, a5, a6] rfl k hk a0 rfl w0 W)
    unfold tv at HF ⊢
    simp only [u64s, List.map_cons, List.map_nil] at HF ⊢
    have HB := Lib.hid (((Below.refl W.heap.size W).alloc (Nat.le_refl _) (.cells #[.int .u64 (a0 : Nat), .int .u64 (a1 : Nat), .int .u64 (a2 : Nat), .int .u64 (a3 : Nat), .int .u64 (a4 : Nat), .int .u64 (a5 : Nat), .int .u64 (a6 : Nat)] 48)).alloc (by simp) (.cells #[.int .i64 P, .int .i64 (I : Nat), .int .i64 (B : Nat)] 27))
    clear hw
    by_cases p0 : p = 0
    · subst p0
      have hv : wordOK 0 k a0 I B = firstOK a0 k := by unfold wordOK; rw [if_pos rfl]
      rw [show ([a0, a1, a2, a3, a4, a5, a6] : List Nat).getD 0 0 = a0 from rfl, hv]
      clear hv
      go_enter Tryd.func34, Tryd.ntmps34
      go_wp2_with fail
      refine (HF.out _).mono ?_
      rintro e W' ⟨rfl, hb⟩
      have HB2 := Lib.hid (below_then HB.out hb)
      clear hb
      go_wp2
      go_ret
      exact ⟨rfl, HB2.out⟩
    by_cases c1 : p = 1 ∧ k = 0
    · obtain ⟨rfl, kk⟩ := c1
      have hv : wordOK 1 k a1 I B = decide (a1 = 0) := by unfold wordOK; rw [if_neg (by decide), if_pos kk]
      rw [show ([a0, a1, a2, a3, a4, a5, a6] : List Nat).getD 1 0 = a1 from rfl, hv]
      have q0 : ((k : Int) == 0) = true := by simp; omega
      clear hv
      go_enter Tryd.func34, Tryd.ntmps34
      go_wp2
      go_ret
      exact ⟨ret_bool (by rw [Bool.eq_iff_iff]; simp), HB.out⟩
    by_cases c2 : p = 2 ∧ k = 0
    · obtain ⟨rfl, kk⟩ := c2
      have hv : wordOK 2 k a2 I B = decide (a2 = 0) := by unfold wordOK; rw [if_neg (by decide), if_pos kk]
      rw [show ([a0, a1, a2, a3, a4, a5, a6] : List Nat).getD 2 0 = a2 from rfl, hv]
      have q0 : ((k : Int) == 0) = true := by simp; omega
      clear hv
      go_enter Tryd.func34, Tryd.ntmps34
      go_wp2
      go_ret
      exact ⟨ret_bool (by rw [Bool.eq_iff_iff]; simp), HB.out⟩
    by_cases c3 : p = 3 ∧ k = 0
    · obtain ⟨rfl, kk⟩ := c3
      have hv : wordOK 3 k a3 I B = decide (a3 = 0) := by unfold wordOK; rw [if_neg (by decide), if_pos kk]
      rw [show ([a0, a1, a2, a3, a4, a5, a6] : List Nat).getD 3 0 = a3 from rfl, hv]
      have q0 : ((k : Int) == 0) = true := by simp; omega
      clear hv
      go_enter Tryd.func34, Tryd.ntmps34
      go_wp2
      go_ret
      exact ⟨ret_bool (by rw [Bool.eq_iff_iff]; simp), HB.out⟩
    by_cases c4 : p = 4 ∧ k = 0
    · obtain ⟨rfl, kk⟩ := c4
      have hv : wordOK 4 k a4 I B = decide (a4 = 0) := by unfold wordOK; rw [if_neg (by decide), if_pos kk]
      rw [show ([a0, a1, a2, a3, a4, a5, a6] : List Nat).getD 4 0 = a4 from rfl, hv]
      have q0 : ((k : Int) == 0) = true := by simp; omega
      clear hv
      go_enter Tryd.func34, Tryd.ntmps34
      go_wp2
      go_ret
      exact ⟨ret_bool (by rw [Bool.eq_iff_iff]; simp), HB.out⟩
    by_cases c5 : p = 5 ∧ k = 0
    · obtain ⟨rfl, kk⟩ := c5
      have hv : wordOK 5 k a5 I B = decide (a5 = 0) := by unfold wordOK; rw [if_neg (by decide), if_pos kk]
      rw [show ([a0, a1, a2, a3, a4, a5, a6] : List Nat).getD 5 0 = a5 from rfl, hv]
      have q0 : ((k : Int) == 0) = true := by simp; omega
      clear hv
      go_enter Tryd.func34, Tryd.ntmps34
      go_wp2
      go_ret
      exact ⟨ret_bool (by rw [Bool.eq_iff_iff]; simp), HB.out⟩
    by_cases c6 : p = 6 ∧ k = 0
    · obtain ⟨rfl, kk⟩ := c6
      have hv : wordOK 6 k a6 I B = decide (a6 = 0) := by unfold wordOK; rw [if_neg (by decide), if_pos kk]
      rw [show ([a0, a1, a2, a3, a4, a5, a6] : List Nat).getD 6 0 = a6 from rfl, hv]
      have q0 : ((k : Int) == 0) = true := by simp; omega
      clear hv
      go_enter Tryd.func34, Tryd.ntmps34
      go_wp2
      go_ret
      exact ⟨ret_bool (by rw [Bool.eq_iff_iff]; simp), HB.out⟩
    by_cases c7 : p = 1 ∧ k = 1
    · obtain ⟨rfl, kk⟩ := c7
      have hv : wordOK 1 k a1 I B = wIn a1 0 8192 := by unfold wordOK; rw [if_neg (by decide), if_neg (by omega), if_pos rfl, if_pos kk]
      rw [show ([a0, a1, a2, a3, a4, a5, a6] : List Nat).getD 1 0 = a1 from rfl, hv]
      have q0 : ((k : Int) == 0) = false := beq_false_of_ne (by omega)
      have q1 : ((k : Int) == 1) = true := by simp; omega
      clear hv
      go_enter Tryd.func34, Tryd.ntmps34
      go_wp2_with fail
      refine (within_any a1 w1 0 8192 _).mono ?_
      rintro e W' ⟨rfl, rfl⟩
      go_wp2
      go_ret
      exact ⟨rfl, HB.out⟩
    by_cases c8 : p = 1 ∧ k = 3
    · obtain ⟨rfl, kk⟩ := c8
      have hv : wordOK 1 k a1 I B = wIn a1 1 64 := by unfold wordOK; rw [if_neg (by decide), if_neg (by omega), if_pos rfl, if_neg (by omega), if_pos kk]
      rw [show ([a0, a1, a2, a3, a4, a5, a6] : List Nat).getD 1 0 = a1 from rfl, hv]
      have q0 : ((k : Int) == 0) = false := beq_false_of_ne (by omega)
      have q3 : ((k : Int) == 3) = true := by simp; omega
      have q1 : ((k : Int) == 1) = false := beq_false_of_ne (by omega)
      clear hv
      go_enter Tryd.func34, Tryd.ntmps34
      go_wp2_with fail
      refine (within_any a1 w1 1 64 _).mono ?_
      rintro e W' ⟨rfl, rfl⟩
      go_wp2
      go_ret
      exact ⟨rfl, HB.out⟩
    by_cases c9 : p = 1
    · subst c9
      have hv : wordOK 1 k a1 I B = wIn a1 0 4096 := by unfold wordOK; rw [if_neg (by decide), if_neg (by omega), if_pos rfl, if_neg (by omega), if_neg (by omega)]
      rw [show ([a0, a1, a2, a3, a4, a5, a6] : List Nat).getD 1 0 = a1 from rfl, hv]
      have q0 : ((k : Int) == 0) = false := beq_false_of_ne (by omega)
      have q1 : ((k : Int) == 1) = false := beq_false_of_ne (by omega)
      have q3 : ((k : Int) == 3) = false := beq_false_of_ne (by omega)
      clear hv
      go_enter Tryd.func34, Tryd.ntmps34
      go_wp2_with fail
      refine (within_any a1 w1 0 4096 _).mono ?_
      rintro e W' ⟨rfl, rfl⟩
      go_wp2
      go_ret
      exact ⟨rfl, HB.out⟩
    by_cases c10 : p = 2
    · subst c10
      have hv : wordOK 2 k a2 I B = wIn a2 1 B := by unfold wordOK; rw [if_neg (by decide), if_neg (by omega), if_neg (by decide), if_pos rfl]
      rw [show ([a0, a1, a2, a3, a4, a5, a6] : List Nat).getD 2 0 = a2 from rfl, hv]
      have q0 : ((k : Int) == 0) = false := beq_false_of_ne (by omega)
      clear hv
      go_enter Tryd.func34, Tryd.ntmps34
      go_wp2_with fail
      refine (within_any a2 w2 1 B _).mono ?_
      rintro e W' ⟨rfl, rfl⟩
      go_wp2
      go_ret
      exact ⟨rfl, HB.out⟩
    by_cases c11 : p = 3 ∧ k = 2
    · obtain ⟨rfl, kk⟩ := c11
      have hv : wordOK 3 k a3 I B = headsOK a3 B := by unfold wordOK; rw [if_neg (by decide), if_neg (by omega), if_neg (by decide), if_neg (by decide), if_pos rfl, if_pos kk]
      rw [show ([a0, a1, a2, a3, a4, a5, a6] : List Nat).getD 3 0 = a3 from rfl, hv]
      have q0 : ((k : Int) == 0) = false := beq_false_of_ne (by omega)
      have q2 : ((k : Int) == 2) = true := by simp; omega
      clear hv
      go_enter Tryd.func34, Tryd.ntmps34
      go_wp2_with fail
      refine (heads_any a3 B w3 hB _).mono ?_
      rintro e W' ⟨rfl, rfl⟩
      go_wp2
      go_ret
      exact ⟨rfl, HB.out⟩
    by_cases c12 : p = 3 ∧ k = 3
    · obtain ⟨rfl, kk⟩ := c12
      have hv : wordOK 3 k a3 I B = wIn a3 1 B := by unfold wordOK; rw [if_neg (by decide), if_neg (by omega), if_neg (by decide), if_neg (by decide), if_pos rfl, if_neg (by omega), if_pos kk]
      rw [show ([a0, a1, a2, a3, a4, a5, a6] : List Nat).getD 3 0 = a3 from rfl, hv]
      have q0 : ((k : Int) == 0) = false := beq_false_of_ne (by omega)
      have q3 : ((k : Int) == 3) = true := by simp; omega
      have q2 : ((k : Int) == 2) = false := beq_false_of_ne (by omega)
      clear hv
      go_enter Tryd.func34, Tryd.ntmps34
      go_wp2_with fail
      refine (within_any a3 w3 1 B _).mono ?_
      rintro e W' ⟨rfl, rfl⟩
      go_wp2
      go_ret
      exact ⟨rfl, HB.out⟩
    by_cases c13 : p = 3
    · subst c13
      have hv : wordOK 3 k a3 I B = wIn a3 0 B := by unfold wordOK; rw [if_neg (by decide), if_neg (by omega), if_neg (by decide), if_neg (by decide), if_pos rfl, if_neg (by omega), if_neg (by omega)]
      rw [show ([a0, a1, a2, a3, a4, a5, a6] : List Nat).getD 3 0 = a3 from rfl, hv]
      have q0 : ((k : Int) == 0) = false := beq_false_of_ne (by omega)
      have q2 : ((k : Int) == 2) = false := beq_false_of_ne (by omega)
      have q3 : ((k : Int) == 3) = false := beq_false_of_ne (by omega)
      clear hv
      go_enter Tryd.func34, Tryd.ntmps34
      go_wp2_with fail
      refine (within_any a3 w3 0 B _).mono ?_
      rintro e W' ⟨rfl, rfl⟩
      go_wp2
      go_ret
      exact ⟨rfl, HB.out⟩
    by_cases c14 : p = 4 ∧ k = 2
    · obtain ⟨rfl, kk⟩ := c14
      have hv : wordOK 4 k a4 I B = wIn a4 1 I := by unfold wordOK; rw [if_neg (by decide), if_neg (by omega), if_neg (by decide), if_neg (by decide), if_neg (by decide), if_pos rfl, if_pos kk]
      rw [show ([a0, a1, a2, a3, a4, a5, a6] : List Nat).getD 4 0 = a4 from rfl, hv]
      have q0 : ((k : Int) == 0) = false := beq_false_of_ne (by omega)
      have q2 : ((k : Int) == 2) = true := by simp; omega
      clear hv
      go_enter Tryd.func34, Tryd.ntmps34
      go_wp2_with fail
      refine (within_any a4 w4 1 I _).mono ?_
      rintro e W' ⟨rfl, rfl⟩
      go_wp2
      go_ret
      exact ⟨rfl, HB.out⟩
    by_cases c15 : p = 4
    · subst c15
      have hv : wordOK 4 k a4 I B = decide (a4 = 0) := by unfold wordOK; rw [if_neg (by decide), if_neg (by omega), if_neg (by decide), if_neg (by decide), if_neg (by decide), if_pos rfl, if_neg (by omega)]
      rw [show ([a0, a1, a2, a3, a4, a5, a6] : List Nat).getD 4 0 = a4 from rfl, hv]
      have q0 : ((k : Int) == 0) = false := beq_false_of_ne (by omega)
      have q2 : ((k : Int) == 2) = false := beq_false_of_ne (by omega)
      clear hv
      go_enter Tryd.func34, Tryd.ntmps34
      go_wp2
      go_ret
      exact ⟨ret_bool (by rw [Bool.eq_iff_iff]; simp), HB.out⟩
    by_cases c16 : p = 5
    · subst c16
      have hv : wordOK 5 k a5 I B = wIn a5 0 1099511627776 := by unfold wordOK; rw [if_neg (by decide), if_neg (by omega), if_neg (by decide), if_neg (by decide), if_neg (by decide), if_neg (by decide)]
      rw [show ([a0, a1, a2, a3, a4, a5, a6] : List Nat).getD 5 0 = a5 from rfl, hv]
      have q0 : ((k : Int) == 0) = false := beq_false_of_ne (by omega)
      clear hv
      go_enter Tryd.func34, Tryd.ntmps34
      go_wp2_with fail
      refine (within_any a5 w5 0 1099511627776 _).mono ?_
      rintro e W' ⟨rfl, rfl⟩
      go_wp2
      go_ret
      exact ⟨rfl, HB.out⟩
    by_cases c17 : p = 6
    · subst c17
      have hv : wordOK 6 k a6 I B = wIn a6 0 1099511627776 := by unfold wordOK; rw [if_neg (by decide), if_neg (by omega), if_neg (by decide), if_neg (by decide), if_neg (by decide), if_neg (by decide)]
      rw [show ([a0, a1, a2, a3, a4, a5, a6] : List Nat).getD 6 0 = a6 from rfl, hv]
      have q0 : ((k : Int) == 0) = false := beq_false_of_ne (by omega)
      clear hv
      go_enter Tryd.func34, Tryd.ntmps34
      go_wp2_with fail
      refine (within_any a6 w6 0 1099511627776 _).mono ?_
      rintro e W' ⟨rfl, rfl⟩
      go_wp2
      go_ret
      exact ⟨rfl, HB.out⟩
    omega
end Go.Proofs.YtnpmepklgakaiaaDoor
