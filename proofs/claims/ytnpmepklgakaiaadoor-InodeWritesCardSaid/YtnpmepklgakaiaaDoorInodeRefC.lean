/- parcloseref06.within; fits, of word 0. parcloseref06.fits, by cases on the place and the kind. parcloseref06.fits: the heads; all of it. -/
import Derived.Test.YtnpmepklgakaiaaDoorInodeA
import Derived.Test.YtnpmepklgakaiaaDoorGeomCheck
import Derived.Test.YtnpmepklgakaiaaDoorGeomBlk
namespace Go.Proofs.YtnpmepklgakaiaaDoor
section
open Go.RowKit
set_option linter.unusedVariables false

theorem wIn_le' {w : Nat} {a b : Int} (h : wIn w a b = true) : w ≤ 4611686018427387904 := by
  unfold wIn at h
  simp only [Bool.and_eq_true, decide_eq_true_eq] at h
  exact h.1
theorem wordOK_le' {p k w I B : Nat} (hp : 1 ≤ p) (h : wordOK p k w I B = true) : w ≤ 4611686018427387904 := by
  unfold wordOK at h
  rw [if_neg (by omega)] at h
  split at h
  · have := of_decide_eq_true h; omega
  split at h
  · split at h
    · exact wIn_le' h
    · split at h <;> exact wIn_le' h
  split at h
  · exact wIn_le' h
  split at h
  · split at h
    · unfold headsOK at h
      simp only [Bool.and_eq_true, decide_eq_true_eq] at h
      omega
    · split at h <;> exact wIn_le' h
  split at h
  · split at h
    · exact wIn_le' h
    · have := of_decide_eq_true h; omega
  exact wIn_le' h
theorem refWithin_any (n a b : Int) (W : World) :
    Calls Tryd.prog 41 #[.int .i64 n, .int .i64 a, .int .i64 b] W fun e W' => e = .returned (.bool (decide (a ≤ n) && decide (n ≤ b))) ∧ W = W' := by
  by_cases h2 : a ≤ n
  case neg =>
    have hd2 : decide (a ≤ n) = false := decide_eq_false h2
    rw [hd2]
    clear h2
    go_enter Tryd.func41, Tryd.ntmps41
    go_wp2
    go_ret
    exact ⟨rfl, rfl⟩
  have hd2 : decide (a ≤ n) = true := decide_eq_true h2
  rw [hd2]
  go_enter Tryd.func41, Tryd.ntmps41
  go_wp2
  go_ret
  exact ⟨by simp, rfl⟩
set_option maxRecDepth 100000 in
set_option maxHeartbeats 4000000 in
theorem fits_0 (b o n c : Nat) (hn : 0 < n) (a : Nat) (ha : a < 18446744073709551616) (k : Nat) (hk : k < 256) (P : Int) (I B : Nat) (W : World) (hc : W.cell? ⟨b, o, none⟩ = some (.int .u64 (a : Nat))) :
    Calls Tryd.prog 33 #[.slice (some ⟨b, o, none⟩) n c, .int .i64 0, .int .u8 (k : Nat), gv P (I : Nat) (B : Nat)] W fun e W' => e = .returned (.bool (wordOK 0 k a I B)) ∧ Below W.heap.size W W' := by
  have HB := Lib.hid ((Below.refl W.heap.size W).alloc (Nat.le_refl _) (.cells #[.int .i64 P, .int .i64 (I : Nat), .int .i64 (B : Nat)] 27))
  have hlt := World.block_lt_of_cell? W _ hc
  dsimp only at hlt
  have hn' : (0 : Int) < (n : Int) := by omega
  have hv : wordOK 0 k a I B = firstOK a k := by unfold wordOK; rw [if_pos rfl]
  have hf : firstOK a k = (decide (k ≤ 3) && (decide (a / 256 % 256 ≤ (if k = 2 then 1 else if k = 0 then 0 else 8)) && decide (a / 65536 % 65536 = 0))) := by
    unfold firstOK
    rw [Bool.eq_iff_iff]
    by_cases k0 : k = 0
    · simp [k0]; omega
    by_cases k2 : k = 2
    · simp [k2]; omega
    by_cases k13 : k = 1 ∨ k = 3
    · rw [if_neg k0, if_neg k2, if_pos k13, if_neg k2, if_neg k0]; simp; omega
    · rw [if_neg k0, if_neg k2, if_neg k13]; simp; omega
  rw [hv, hf]
  clear hv hf
  unfold gv
  by_cases k3 : k ≤ 3
  case neg =>
    have q0 : ((k : Int) == 0) = false := beq_false_of_ne (by omega)
    have q2 : ((k : Int) == 2) = false := beq_false_of_ne (by omega)
    have d3 : decide ((k : Int) ≤ 3) = false := by simp; omega
    rw [decide_eq_false k3]
    clear k3
    go_enter Tryd.func33, Tryd.ntmps33
    go_wp2
    all_goals go_ret
    all_goals exact ⟨rfl, HB.out⟩
  have d3 : decide ((k : Int) ≤ 3) = true := by simp; omega
  rw [decide_eq_true k3]
  have hu : a / 256 % 256 < 256 := Nat.mod_lt _ (by decide)
  generalize hq : a / 256 % 256 = q at *
  have hq' : (a : Int) / 256 % 256 = (q : Int) := by omega
  have hp : a / 65536 % 65536 < 65536 := Nat.mod_lt _ (by decide)
  generalize hy : a / 65536 % 65536 = y at *
  have hy' : (a : Int) / 65536 % 65536 = (y : Int) := by omega
  clear hq hy
  by_cases k2 : k = 2
  · have q2 : ((k : Int) == 2) = true := by simp; omega
    have q0 : ((k : Int) == 0) = false := beq_false_of_ne (by omega)
    rw [if_pos k2]
    clear k2 k3
    by_cases hq1 : q ≤ 1
    · have d1 : decide ((q : Int) ≤ 1) = true := by simp; omega
      rw [decide_eq_true hq1]
      go_enter Tryd.func33, Tryd.ntmps33
      go_wp2
      go_ret
      exact ⟨ret_bool (by rw [Bool.eq_iff_iff]; simp), HB.out⟩
    · have d1 : decide ((q : Int) ≤ 1) = false := by simp; omega
      rw [decide_eq_false hq1]
      go_enter Tryd.func33, Tryd.ntmps33
      go_wp2
      go_ret
      exact ⟨rfl, HB.out⟩
  have q2 : ((k : Int) == 2) = false := beq_false_of_ne (by omega)
  rw [if_neg k2]
  by_cases k0 : k = 0
  · have q0 : ((k : Int) == 0) = true := by simp; omega
    rw [if_pos k0]
    clear k0 k2 k3
    by_cases hq1 : q ≤ 0
    · have d1 : decide ((q : Int) ≤ 0) = true := by simp; omega
      rw [decide_eq_true hq1]
      go_enter Tryd.func33, Tryd.ntmps33
      go_wp2
      go_ret
      exact ⟨ret_bool (by rw [Bool.eq_iff_iff]; simp), HB.out⟩
    · have d1 : decide ((q : Int) ≤ 0) = false := by simp; omega
      rw [decide_eq_false hq1]
      go_enter Tryd.func33, Tryd.ntmps33
      go_wp2
      go_ret
      exact ⟨rfl, HB.out⟩
  have q0 : ((k : Int) == 0) = false := beq_false_of_ne (by omega)
  rw [if_neg k0]
  clear k0 k2 k3
  by_cases hq1 : q ≤ 8
  · have d1 : decide ((q : Int) ≤ 8) = true := by simp; omega
    rw [decide_eq_true hq1]
    go_enter Tryd.func33, Tryd.ntmps33
    go_wp2
    go_ret
    exact ⟨ret_bool (by rw [Bool.eq_iff_iff]; simp), HB.out⟩
  · have d1 : decide ((q : Int) ≤ 8) = false := by simp; omega
    rw [decide_eq_false hq1]
    go_enter Tryd.func33, Tryd.ntmps33
    go_wp2
    go_ret
    exact ⟨rfl, HB.out⟩
end
section
open Go.RowKit
set_option linter.unusedVariables false

theorem wIn_big {a : Nat} (h : ¬ a ≤ 4611686018427387904) (x y : Int) : wIn a x y = false := by unfold wIn; rw [decide_eq_false h]; rfl
theorem wIn_small {a : Nat} (h : a ≤ 4611686018427387904) (x y : Int) : wIn a x y = (decide (x ≤ (a : Int)) && decide ((a : Int) ≤ y)) := by unfold wIn; rw [decide_eq_true h]; rfl
theorem wordOK_big {p k a I B : Nat} (hp : 1 ≤ p) (h : ¬ a ≤ 4611686018427387904) : wordOK p k a I B = false := by
  cases hh : wordOK p k a I B with
  | false => rfl
  | true => exact absurd (wordOK_le' hp hh) h
set_option maxRecDepth 100000 in
set_option maxHeartbeats 4000000 in
theorem fits_1z (b o n c : Nat) (hn : 1 < n) (a : Nat) (ha : a ≤ 4611686018427387904) (k : Nat) (hk : k ≤ 3) (kk : k = 0) (P : Int) (I B : Nat) (hB : B < 65536) (W : World) (hc : W.cell? ⟨b, o + 1, none⟩ = some (.int .u64 (a : Nat))) :
    Calls Tryd.prog 33 #[.slice (some ⟨b, o, none⟩) n c, .int .i64 1, .int .u8 (k : Nat), gv P (I : Nat) (B : Nat)] W fun e W' => e = .returned (.bool (wordOK 1 k a I B)) ∧ Below W.heap.size W W' := by
  have HB := Lib.hid ((Below.refl W.heap.size W).alloc (Nat.le_refl _) (.cells #[.int .i64 P, .int .i64 (I : Nat), .int .i64 (B : Nat)] 27))
  have hlt := World.block_lt_of_cell? W _ hc
  dsimp only at hlt
  have hn' : (1 : Int) < (n : Int) := by omega
  have hv : wordOK 1 k a I B = decide (a = 0) := by unfold wordOK; rw [if_neg (by decide), if_pos kk]
  rw [hv]
  have hbig : decide ((a : Int) > 4611686018427387904) = false := by simp; omega
  have hwr : IntKind.i64.wrap (a : Int) = (a : Int) := by rw [IntKind.wrap_i64]; omega
  have q0 : ((k : Int) == 0) = true := by simp; omega
  unfold gv
  clear hv hk kk
  go_enter Tryd.func33, Tryd.ntmps33
  go_wp2
  go_ret
  exact ⟨ret_bool (by rw [Bool.eq_iff_iff]; simp), HB.out⟩
set_option maxRecDepth 100000 in
set_option maxHeartbeats 4000000 in
theorem fits_2z (b o n c : Nat) (hn : 2 < n) (a : Nat) (ha : a ≤ 4611686018427387904) (k : Nat) (hk : k ≤ 3) (kk : k = 0) (P : Int) (I B : Nat) (hB : B < 65536) (W : World) (hc : W.cell? ⟨b, o + 2, none⟩ = some (.int .u64 (a : Nat))) :
    Calls Tryd.prog 33 #[.slice (some ⟨b, o, none⟩) n c, .int .i64 2, .int .u8 (k : Nat), gv P (I : Nat) (B : Nat)] W fun e W' => e = .returned (.bool (wordOK 2 k a I B)) ∧ Below W.heap.size W W' := by
  have HB := Lib.hid ((Below.refl W.heap.size W).alloc (Nat.le_refl _) (.cells #[.int .i64 P, .int .i64 (I : Nat), .int .i64 (B : Nat)] 27))
  have hlt := World.block_lt_of_cell? W _ hc
  dsimp only at hlt
  have hn' : (2 : Int) < (n : Int) := by omega
  have hv : wordOK 2 k a I B = decide (a = 0) := by unfold wordOK; rw [if_neg (by decide), if_pos kk]
  rw [hv]
  have hbig : decide ((a : Int) > 4611686018427387904) = false := by simp; omega
  have hwr : IntKind.i64.wrap (a : Int) = (a : Int) := by rw [IntKind.wrap_i64]; omega
  have q0 : ((k : Int) == 0) = true := by simp; omega
  unfold gv
  clear hv hk kk
  go_enter Tryd.func33, Tryd.ntmps33
  go_wp2
  go_ret
  exact ⟨ret_bool (by rw [Bool.eq_iff_iff]; simp), HB.out⟩
set_option maxRecDepth 100000 in
set_option maxHeartbeats 4000000 in
theorem fits_3z (b o n c : Nat) (hn : 3 < n) (a : Nat) (ha : a ≤ 4611686018427387904) (k : Nat) (hk : k ≤ 3) (kk : k = 0) (P : Int) (I B : Nat) (hB : B < 65536) (W : World) (hc : W.cell? ⟨b, o + 3, none⟩ = some (.int .u64 (a : Nat))) :
    Calls Tryd.prog 33 #[.slice (some ⟨b, o, none⟩) n c, .int .i64 3, .int .u8 (k : Nat), gv P (I : Nat) (B : Nat)] W fun e W' => e = .returned (.bool (wordOK 3 k a I B)) ∧ Below W.heap.size W W' := by
  have HB := Lib.hid ((Below.refl W.heap.size W).alloc (Nat.le_refl _) (.cells #[.int .i64 P, .int .i64 (I : Nat), .int .i64 (B : Nat)] 27))
  have hlt := World.block_lt_of_cell? W _ hc
  dsimp only at hlt
  have hn' : (3 : Int) < (n : Int) := by omega
  have hv : wordOK 3 k a I B = decide (a = 0) := by unfold wordOK; rw [if_neg (by decide), if_pos kk]
  rw [hv]
  have hbig : decide ((a : Int) > 4611686018427387904) = false := by simp; omega
  have hwr : IntKind.i64.wrap (a : Int) = (a : Int) := by rw [IntKind.wrap_i64]; omega
  have q0 : ((k : Int) == 0) = true := by simp; omega
  unfold gv
  clear hv hk kk
  go_enter Tryd.func33, Tryd.ntmps33
  go_wp2
  go_ret
  exact ⟨ret_bool (by rw [Bool.eq_iff_iff]; simp), HB.out⟩
set_option maxRecDepth 100000 in
set_option maxHeartbeats 4000000 in
theorem fits_4z (b o n c : Nat) (hn : 4 < n) (a : Nat) (ha : a ≤ 4611686018427387904) (k : Nat) (hk : k ≤ 3) (kk : k = 0) (P : Int) (I B : Nat) (hB : B < 65536) (W : World) (hc : W.cell? ⟨b, o + 4, none⟩ = some (.int .u64 (a : Nat))) :
    Calls Tryd.prog 33 #[.slice (some ⟨b, o, none⟩) n c, .int .i64 4, .int .u8 (k : Nat), gv P (I : Nat) (B : Nat)] W fun e W' => e = .returned (.bool (wordOK 4 k a I B)) ∧ Below W.heap.size W W' := by
  have HB := Lib.hid ((Below.refl W.heap.size W).alloc (Nat.le_refl _) (.cells #[.int .i64 P, .int .i64 (I : Nat), .int .i64 (B : Nat)] 27))
  have hlt := World.block_lt_of_cell? W _ hc
  dsimp only at hlt
  have hn' : (4 : Int) < (n : Int) := by omega
  have hv : wordOK 4 k a I B = decide (a = 0) := by unfold wordOK; rw [if_neg (by decide), if_pos kk]
  rw [hv]
  have hbig : decide ((a : Int) > 4611686018427387904) = false := by simp; omega
  have hwr : IntKind.i64.wrap (a : Int) = (a : Int) := by rw [IntKind.wrap_i64]; omega
  have q0 : ((k : Int) == 0) = true := by simp; omega
  unfold gv
  clear hv hk kk
  go_enter Tryd.func33, Tryd.ntmps33
  go_wp2
  go_ret
  exact ⟨ret_bool (by rw [Bool.eq_iff_iff]; simp), HB.out⟩
set_option maxRecDepth 100000 in
set_option maxHeartbeats 4000000 in
theorem fits_5z (b o n c : Nat) (hn : 5 < n) (a : Nat) (ha : a ≤ 4611686018427387904) (k : Nat) (hk : k ≤ 3) (kk : k = 0) (P : Int) (I B : Nat) (hB : B < 65536) (W : World) (hc : W.cell? ⟨b, o + 5, none⟩ = some (.int .u64 (a : Nat))) :
    Calls Tryd.prog 33 #[.slice (some ⟨b, o, none⟩) n c, .int .i64 5, .int .u8 (k : Nat), gv P (I : Nat) (B : Nat)] W fun e W' => e = .returned (.bool (wordOK 5 k a I B)) ∧ Below W.heap.size W W' := by
  have HB := Lib.hid ((Below.refl W.heap.size W).alloc (Nat.le_refl _) (.cells #[.int .i64 P, .int .i64 (I : Nat), .int .i64 (B : Nat)] 27))
  have hlt := World.block_lt_of_cell? W _ hc
  dsimp only at hlt
  have hn' : (5 : Int) < (n : Int) := by omega
  have hv : wordOK 5 k a I B = decide (a = 0) := by unfold wordOK; rw [if_neg (by decide), if_pos kk]
  rw [hv]
  have hbig : decide ((a : Int) > 4611686018427387904) = false := by simp; omega
  have hwr : IntKind.i64.wrap (a : Int) = (a : Int) := by rw [IntKind.wrap_i64]; omega
  have q0 : ((k : Int) == 0) = true := by simp; omega
  unfold gv
  clear hv hk kk
  go_enter Tryd.func33, Tryd.ntmps33
  go_wp2
  go_ret
  exact ⟨ret_bool (by rw [Bool.eq_iff_iff]; simp), HB.out⟩
set_option maxRecDepth 100000 in
set_option maxHeartbeats 4000000 in
theorem fits_6z (b o n c : Nat) (hn : 6 < n) (a : Nat) (ha : a ≤ 4611686018427387904) (k : Nat) (hk : k ≤ 3) (kk : k = 0) (P : Int) (I B : Nat) (hB : B < 65536) (W : World) (hc : W.cell? ⟨b, o + 6, none⟩ = some (.int .u64 (a : Nat))) :
    Calls Tryd.prog 33 #[.slice (some ⟨b, o, none⟩) n c, .int .i64 6, .int .u8 (k : Nat), gv P (I : Nat) (B : Nat)] W fun e W' => e = .returned (.bool (wordOK 6 k a I B)) ∧ Below W.heap.size W W' := by
  have HB := Lib.hid ((Below.refl W.heap.size W).alloc (Nat.le_refl _) (.cells #[.int .i64 P, .int .i64 (I : Nat), .int .i64 (B : Nat)] 27))
  have hlt := World.block_lt_of_cell? W _ hc
  dsimp only at hlt
  have hn' : (6 : Int) < (n : Int) := by omega
  have hv : wordOK 6 k a I B = decide (a = 0) := by unfold wordOK; rw [if_neg (by decide), if_pos kk]
  rw [hv]
  have hbig : decide ((a : Int) > 4611686018427387904) = false := by simp; omega
  have hwr : IntKind.i64.wrap (a : Int) = (a : Int) := by rw [IntKind.wrap_i64]; omega
  have q0 : ((k : Int) == 0) = true := by simp; omega
  unfold gv
  clear hv hk kk
  go_enter Tryd.func33, Tryd.ntmps33
  go_wp2
  go_ret
  exact ⟨ret_bool (by rw [Bool.eq_iff_iff]; simp), HB.out⟩
set_option maxRecDepth 100000 in
set_option maxHeartbeats 4000000 in
theorem fits_1a (b o n c : Nat) (hn : 1 < n) (a : Nat) (ha : a ≤ 4611686018427387904) (k : Nat) (hk : k ≤ 3) (kk : k = 1) (P : Int) (I B : Nat) (hB : B < 65536) (W : World) (hc : W.cell? ⟨b, o + 1, none⟩ = some (.int .u64 (a : Nat))) :
    Calls Tryd.prog 33 #[.slice (some ⟨b, o, none⟩) n c, .int .i64 1, .int .u8 (k : Nat), gv P (I : Nat) (B : Nat)] W fun e W' => e = .returned (.bool (wordOK 1 k a I B)) ∧ Below W.heap.size W W' := by
  have HB := Lib.hid ((Below.refl W.heap.size W).alloc (Nat.le_refl _) (.cells #[.int .i64 P, .int .i64 (I : Nat), .int .i64 (B : Nat)] 27))
  have hlt := World.block_lt_of_cell? W _ hc
  dsimp only at hlt
  have hn' : (1 : Int) < (n : Int) := by omega
  have hv : wordOK 1 k a I B = wIn a 0 8192 := by unfold wordOK; rw [if_neg (by decide), if_neg (by omega), if_pos rfl, if_pos kk]
  rw [hv]
  have hbig : decide ((a : Int) > 4611686018427387904) = false := by simp; omega
  have hwr : IntKind.i64.wrap (a : Int) = (a : Int) := by rw [IntKind.wrap_i64]; omega
  have q0 : ((k : Int) == 0) = false := beq_false_of_ne (by omega)
  have q1 : ((k : Int) == 1) = true := by simp; omega
  rw [wIn_small ha]
  unfold gv
  clear hv hk kk
  go_enter Tryd.func33, Tryd.ntmps33
  go_wp2_with fail
  refine (refWithin_any (a : Nat) 0 8192 _).mono ?_
  rintro e W' ⟨rfl, rfl⟩
  go_wp2
  go_ret
  first | exact ⟨rfl, HB.out⟩ | exact ⟨ret_bool (by rw [Bool.eq_iff_iff]; simp), HB.out⟩
set_option maxRecDepth 100000 in
set_option maxHeartbeats 4000000 in
theorem fits_1b (b o n c : Nat) (hn : 1 < n) (a : Nat) (ha : a ≤ 4611686018427387904) (k : Nat) (hk : k ≤ 3) (kk : k = 3) (P : Int) (I B : Nat) (hB : B < 65536) (W : World) (hc : W.cell? ⟨b, o + 1, none⟩ = some (.int .u64 (a : Nat))) :
    Calls Tryd.prog 33 #[.slice (some ⟨b, o, none⟩) n c, .int .i64 1, .int .u8 (k : Nat), gv P (I : Nat) (B : Nat)] W fun e W' => e = .returned (.bool (wordOK 1 k a I B)) ∧ Below W.heap.size W W' := by
  have HB := Lib.hid ((Below.refl W.heap.size W).alloc (Nat.le_refl _) (.cells #[.int .i64 P, .int .i64 (I : Nat), .int .i64 (B : Nat)] 27))
  have hlt := World.block_lt_of_cell? W _ hc
  dsimp only at hlt
  have hn' : (1 : Int) < (n : Int) := by omega
  have hv : wordOK 1 k a I B = wIn a 1 64 := by unfold wordOK; rw [if_neg (by decide), if_neg (by omega), if_pos rfl, if_neg (by omega), if_pos kk]
  rw [hv]
  have hbig : decide ((a : Int) > 4611686018427387904) = false := by simp; omega
  have hwr : IntKind.i64.wrap (a : Int) = (a : Int) := by rw [IntKind.wrap_i64]; omega
  have q0 : ((k : Int) == 0) = false := beq_false_of_ne (by omega)
  have q3 : ((k : Int) == 3) = true := by simp; omega
  have q1 : ((k : Int) == 1) = false := beq_false_of_ne (by omega)
  have q2 : ((k : Int) == 2) = false := beq_false_of_ne (by omega)
  rw [wIn_small ha]
  unfold gv
  clear hv hk kk
  go_enter Tryd.func33, Tryd.ntmps33
  go_wp2_with fail
  refine (refWithin_any (a : Nat) 1 64 _).mono ?_
  rintro e W' ⟨rfl, rfl⟩
  go_wp2
  go_ret
  first | exact ⟨rfl, HB.out⟩ | exact ⟨ret_bool (by rw [Bool.eq_iff_iff]; simp), HB.out⟩
set_option maxRecDepth 100000 in
set_option maxHeartbeats 4000000 in
theorem fits_1c (b o n c : Nat) (hn : 1 < n) (a : Nat) (ha : a ≤ 4611686018427387904) (k : Nat) (hk : k ≤ 3) (kk : k = 2) (P : Int) (I B : Nat) (hB : B < 65536) (W : World) (hc : W.cell? ⟨b, o + 1, none⟩ = some (.int .u64 (a : Nat))) :
    Calls Tryd.prog 33 #[.slice (some ⟨b, o, none⟩) n c, .int .i64 1, .int .u8 (k : Nat), gv P (I : Nat) (B : Nat)] W fun e W' => e = .returned (.bool (wordOK 1 k a I B)) ∧ Below W.heap.size W W' := by
  have HB := Lib.hid ((Below.refl W.heap.size W).alloc (Nat.le_refl _) (.cells #[.int .i64 P, .int .i64 (I : Nat), .int .i64 (B : Nat)] 27))
  have hlt := World.block_lt_of_cell? W _ hc
  dsimp only at hlt
  have hn' : (1 : Int) < (n : Int) := by omega
  have hv : wordOK 1 k a I B = wIn a 0 4096 := by unfold wordOK; rw [if_neg (by decide), if_neg (by omega), if_pos rfl, if_neg (by omega), if_neg (by omega)]
  rw [hv]
  have hbig : decide ((a : Int) > 4611686018427387904) = false := by simp; omega
  have hwr : IntKind.i64.wrap (a : Int) = (a : Int) := by rw [IntKind.wrap_i64]; omega
  have q0 : ((k : Int) == 0) = false := beq_false_of_ne (by omega)
  have q2 : ((k : Int) == 2) = true := by simp; omega
  have q1 : ((k : Int) == 1) = false := beq_false_of_ne (by omega)
  have q3 : ((k : Int) == 3) = false := beq_false_of_ne (by omega)
  rw [wIn_small ha]
  unfold gv
  clear hv hk kk
  go_enter Tryd.func33, Tryd.ntmps33
  go_wp2_with fail
  refine (refWithin_any (a : Nat) 0 4096 _).mono ?_
  rintro e W' ⟨rfl, rfl⟩
  go_wp2
  go_ret
  first | exact ⟨rfl, HB.out⟩ | exact ⟨ret_bool (by rw [Bool.eq_iff_iff]; simp), HB.out⟩
set_option maxRecDepth 100000 in
set_option maxHeartbeats 4000000 in
theorem fits_2a (b o n c : Nat) (hn : 2 < n) (a : Nat) (ha : a ≤ 4611686018427387904) (k : Nat) (hk : k ≤ 3) (kk : k ≠ 0) (P : Int) (I B : Nat) (hB : B < 65536) (W : World) (hc : W.cell? ⟨b, o + 2, none⟩ = some (.int .u64 (a : Nat))) :
    Calls Tryd.prog 33 #[.slice (some ⟨b, o, none⟩) n c, .int .i64 2, .int .u8 (k : Nat), gv P (I : Nat) (B : Nat)] W fun e W' => e = .returned (.bool (wordOK 2 k a I B)) ∧ Below W.heap.size W W' := by
  have HB := Lib.hid ((Below.refl W.heap.size W).alloc (Nat.le_refl _) (.cells #[.int .i64 P, .int .i64 (I : Nat), .int .i64 (B : Nat)] 27))
  have hlt := World.block_lt_of_cell? W _ hc
  dsimp only at hlt
  have hn' : (2 : Int) < (n : Int) := by omega
  have hv : wordOK 2 k a I B = wIn a 1 B := by unfold wordOK; rw [if_neg (by decide), if_neg (by omega), if_neg (by decide), if_pos rfl]
  rw [hv]
  have hbig : decide ((a : Int) > 4611686018427387904) = false := by simp; omega
  have hwr : IntKind.i64.wrap (a : Int) = (a : Int) := by rw [IntKind.wrap_i64]; omega
  have q0 : ((k : Int) == 0) = false := beq_false_of_ne (by omega)
  rw [wIn_small ha]
  unfold gv
  clear hv hk kk
  go_enter Tryd.func33, Tryd.ntmps33
  go_wp2_with fail
  refine (refWithin_any (a : Nat) 1 (B : Nat) _).mono ?_
  rintro e W' ⟨rfl, rfl⟩
  go_wp2
  go_ret
  first | exact ⟨rfl, HB.out⟩ | exact ⟨ret_bool (by rw [Bool.eq_iff_iff]; simp), HB.out⟩
set_option maxRecDepth 100000 in
set_option maxHeartbeats 4000000 in
theorem fits_3b (b o n c : Nat) (hn : 3 < n) (a : Nat) (ha : a ≤ 4611686018427387904) (k : Nat) (hk : k ≤ 3) (kk : k = 3) (P : Int) (I B : Nat) (hB : B < 65536) (W : World) (hc : W.cell? ⟨b, o + 3, none⟩ = some (.int .u64 (a : Nat))) :
    Calls Tryd.prog 33 #[.slice (some ⟨b, o, none⟩) n c, .int .i64 3, .int .u8 (k : Nat), gv P (I : Nat) (B : Nat)] W fun e W' => e = .returned (.bool (wordOK 3 k a I B)) ∧ Below W.heap.size W W' := by
  have HB := Lib.hid ((Below.refl W.heap.size W).alloc (Nat.le_refl _) (.cells #[.int .i64 P, .int .i64 (I : Nat), .int .i64 (B : Nat)] 27))
  have hlt := World.block_lt_of_cell? W _ hc
  dsimp only at hlt
  have hn' : (3 : Int) < (n : Int) := by omega
  have hv : wordOK 3 k a I B = wIn a 1 B := by unfold wordOK; rw [if_neg (by decide), if_neg (by omega), if_neg (by decide), if_neg (by decide), if_pos rfl, if_neg (by omega), if_pos kk]
  rw [hv]
  have hbig : decide ((a : Int) > 4611686018427387904) = false := by simp; omega
  have hwr : IntKind.i64.wrap (a : Int) = (a : Int) := by rw [IntKind.wrap_i64]; omega
  have q0 : ((k : Int) == 0) = false := beq_false_of_ne (by omega)
  have q3 : ((k : Int) == 3) = true := by simp; omega
  have q2 : ((k : Int) == 2) = false := beq_false_of_ne (by omega)
  rw [wIn_small ha]
  unfold gv
  clear hv hk kk
  go_enter Tryd.func33, Tryd.ntmps33
  go_wp2_with fail
  refine (refWithin_any (a : Nat) 1 (B : Nat) _).mono ?_
  rintro e W' ⟨rfl, rfl⟩
  go_wp2
  go_ret
  first | exact ⟨rfl, HB.out⟩ | exact ⟨ret_bool (by rw [Bool.eq_iff_iff]; simp), HB.out⟩
set_option maxRecDepth 100000 in
set_option maxHeartbeats 4000000 in
theorem fits_3c (b o n c : Nat) (hn : 3 < n) (a : Nat) (ha : a ≤ 4611686018427387904) (k : Nat) (hk : k ≤ 3) (kk : k = 1) (P : Int) (I B : Nat) (hB : B < 65536) (W : World) (hc : W.cell? ⟨b, o + 3, none⟩ = some (.int .u64 (a : Nat))) :
    Calls Tryd.prog 33 #[.slice (some ⟨b, o, none⟩) n c, .int .i64 3, .int .u8 (k : Nat), gv P (I : Nat) (B : Nat)] W fun e W' => e = .returned (.bool (wordOK 3 k a I B)) ∧ Below W.heap.size W W' := by
  have HB := Lib.hid ((Below.refl W.heap.size W).alloc (Nat.le_refl _) (.cells #[.int .i64 P, .int .i64 (I : Nat), .int .i64 (B : Nat)] 27))
  have hlt := World.block_lt_of_cell? W _ hc
  dsimp only at hlt
  have hn' : (3 : Int) < (n : Int) := by omega
  have hv : wordOK 3 k a I B = wIn a 0 B := by unfold wordOK; rw [if_neg (by decide), if_neg (by omega), if_neg (by decide), if_neg (by decide), if_pos rfl, if_neg (by omega), if_neg (by omega)]
  rw [hv]
  have hbig : decide ((a : Int) > 4611686018427387904) = false := by simp; omega
  have hwr : IntKind.i64.wrap (a : Int) = (a : Int) := by rw [IntKind.wrap_i64]; omega
  have q0 : ((k : Int) == 0) = false := beq_false_of_ne (by omega)
  have q2 : ((k : Int) == 2) = false := beq_false_of_ne (by omega)
  have q3 : ((k : Int) == 3) = false := beq_false_of_ne (by omega)
  rw [wIn_small ha]
  unfold gv
  clear hv hk kk
  go_enter Tryd.func33, Tryd.ntmps33
  go_wp2_with fail
  refine (refWithin_any (a : Nat) 0 (B : Nat) _).mono ?_
  rintro e W' ⟨rfl, rfl⟩
  go_wp2
  go_ret
  first | exact ⟨rfl, HB.out⟩ | exact ⟨ret_bool (by rw [Bool.eq_iff_iff]; simp), HB.out⟩
set_option maxRecDepth 100000 in
set_option maxHeartbeats 4000000 in
theorem fits_4a (b o n c : Nat) (hn : 4 < n) (a : Nat) (ha : a ≤ 4611686018427387904) (k : Nat) (hk : k ≤ 3) (kk : k = 2) (P : Int) (I B : Nat) (hB : B < 65536) (W : World) (hc : W.cell? ⟨b, o + 4, none⟩ = some (.int .u64 (a : Nat))) :
    Calls Tryd.prog 33 #[.slice (some ⟨b, o, none⟩) n c, .int .i64 4, .int .u8 (k : Nat), gv P (I : Nat) (B : Nat)] W fun e W' => e = .returned (.bool (wordOK 4 k a I B)) ∧ Below W.heap.size W W' := by
  have HB := Lib.hid ((Below.refl W.heap.size W).alloc (Nat.le_refl _) (.cells #[.int .i64 P, .int .i64 (I : Nat), .int .i64 (B : Nat)] 27))
  have hlt := World.block_lt_of_cell? W _ hc
  dsimp only at hlt
  have hn' : (4 : Int) < (n : Int) := by omega
  have hv : wordOK 4 k a I B = wIn a 1 I := by unfold wordOK; rw [if_neg (by decide), if_neg (by omega), if_neg (by decide), if_neg (by decide), if_neg (by decide), if_pos rfl, if_pos kk]
  rw [hv]
  have hbig : decide ((a : Int) > 4611686018427387904) = false := by simp; omega
  have hwr : IntKind.i64.wrap (a : Int) = (a : Int) := by rw [IntKind.wrap_i64]; omega
  have q0 : ((k : Int) == 0) = false := beq_false_of_ne (by omega)
  have q2 : ((k : Int) == 2) = true := by simp; omega
  rw [wIn_small ha]
  unfold gv
  clear hv hk kk
  go_enter Tryd.func33, Tryd.ntmps33
  go_wp2_with fail
  refine (refWithin_any (a : Nat) 1 (I : Nat) _).mono ?_
  rintro e W' ⟨rfl, rfl⟩
  go_wp2
  go_ret
  first | exact ⟨rfl, HB.out⟩ | exact ⟨ret_bool (by rw [Bool.eq_iff_iff]; simp), HB.out⟩
set_option maxRecDepth 100000 in
set_option maxHeartbeats 4000000 in
theorem fits_4b (b o n c : Nat) (hn : 4 < n) (a : Nat) (ha : a ≤ 4611686018427387904) (k : Nat) (hk : k ≤ 3) (kk : k = 1 ∨ k = 3) (P : Int) (I B : Nat) (hB : B < 65536) (W : World) (hc : W.cell? ⟨b, o + 4, none⟩ = some (.int .u64 (a : Nat))) :
    Calls Tryd.prog 33 #[.slice (some ⟨b, o, none⟩) n c, .int .i64 4, .int .u8 (k : Nat), gv P (I : Nat) (B : Nat)] W fun e W' => e = .returned (.bool (wordOK 4 k a I B)) ∧ Below W.heap.size W W' := by
  have HB := Lib.hid ((Below.refl W.heap.size W).alloc (Nat.le_refl _) (.cells #[.int .i64 P, .int .i64 (I : Nat), .int .i64 (B : Nat)] 27))
  have hlt := World.block_lt_of_cell? W _ hc
  dsimp only at hlt
  have hn' : (4 : Int) < (n : Int) := by omega
  have hv : wordOK 4 k a I B = decide (a = 0) := by unfold wordOK; rw [if_neg (by decide), if_neg (by omega), if_neg (by decide), if_neg (by decide), if_neg (by decide), if_pos rfl, if_neg (by omega)]
  rw [hv]
  have hbig : decide ((a : Int) > 4611686018427387904) = false := by simp; omega
  have hwr : IntKind.i64.wrap (a : Int) = (a : Int) := by rw [IntKind.wrap_i64]; omega
  have q0 : ((k : Int) == 0) = false := beq_false_of_ne (by omega)
  have q2 : ((k : Int) == 2) = false := beq_false_of_ne (by omega)
  unfold gv
  clear hv hk kk
  go_enter Tryd.func33, Tryd.ntmps33
  go_wp2
  go_ret
  exact ⟨ret_bool (by rw [Bool.eq_iff_iff]; simp), HB.out⟩
set_option maxRecDepth 100000 in
set_option maxHeartbeats 4000000 in
theorem fits_5a (b o n c : Nat) (hn : 5 < n) (a : Nat) (ha : a ≤ 4611686018427387904) (k : Nat) (hk : k ≤ 3) (kk : k ≠ 0) (P : Int) (I B : Nat) (hB : B < 65536) (W : World) (hc : W.cell? ⟨b, o + 5, none⟩ = some (.int .u64 (a : Nat))) :
    Calls Tryd.prog 33 #[.slice (some ⟨b, o, none⟩) n c, .int .i64 5, .int .u8 (k : Nat), gv P (I : Nat) (B : Nat)] W fun e W' => e = .returned (.bool (wordOK 5 k a I B)) ∧ Below W.heap.size W W' := by
  have HB := Lib.hid ((Below.refl W.heap.size W).alloc (Nat.le_refl _) (.cells #[.int .i64 P, .int .i64 (I : Nat), .int .i64 (B : Nat)] 27))
  have hlt := World.block_lt_of_cell? W _ hc
  dsimp only at hlt
  have hn' : (5 : Int) < (n : Int) := by omega
  have hv : wordOK 5 k a I B = wIn a 0 1099511627776 := by unfold wordOK; rw [if_neg (by decide), if_neg (by omega), if_neg (by decide), if_neg (by decide), if_neg (by decide), if_neg (by decide)]
  rw [hv]
  have hbig : decide ((a : Int) > 4611686018427387904) = false := by simp; omega
  have hwr : IntKind.i64.wrap (a : Int) = (a : Int) := by rw [IntKind.wrap_i64]; omega
  have q0 : ((k : Int) == 0) = false := beq_false_of_ne (by omega)
  rw [wIn_small ha]
  unfold gv
  clear hv hk kk
  go_enter Tryd.func33, Tryd.ntmps33
  go_wp2_with fail
  refine (refWithin_any (a : Nat) 0 1099511627776 _).mono ?_
  rintro e W' ⟨rfl, rfl⟩
  go_wp2
  go_ret
  first | exact ⟨rfl, HB.out⟩ | exact ⟨ret_bool (by rw [Bool.eq_iff_iff]; simp), HB.out⟩
set_option maxRecDepth 100000 in
set_option maxHeartbeats 4000000 in
theorem fits_6a (b o n c : Nat) (hn : 6 < n) (a : Nat) (ha : a ≤ 4611686018427387904) (k : Nat) (hk : k ≤ 3) (kk : k ≠ 0) (P : Int) (I B : Nat) (hB : B < 65536) (W : World) (hc : W.cell? ⟨b, o + 6, none⟩ = some (.int .u64 (a : Nat))) :
    Calls Tryd.prog 33 #[.slice (some ⟨b, o, none⟩) n c, .int .i64 6, .int .u8 (k : Nat), gv P (I : Nat) (B : Nat)] W fun e W' => e = .returned (.bool (wordOK 6 k a I B)) ∧ Below W.heap.size W W' := by
  have HB := Lib.hid ((Below.refl W.heap.size W).alloc (Nat.le_refl _) (.cells #[.int .i64 P, .int .i64 (I : Nat), .int .i64 (B : Nat)] 27))
  have hlt := World.block_lt_of_cell? W _ hc
  dsimp only at hlt
  have hn' : (6 : Int) < (n : Int) := by omega
  have hv : wordOK 6 k a I B = wIn a 0 1099511627776 := by unfold wordOK; rw [if_neg (by decide), if_neg (by omega), if_neg (by decide), if_neg (by decide), if_neg (by decide), if_neg (by decide)]
  rw [hv]
  have hbig : decide ((a : Int) > 4611686018427387904) = false := by simp; omega
  have hwr : IntKind.i64.wrap (a : Int) = (a : Int) := by rw [IntKind.wrap_i64]; omega
  have q0 : ((k : Int) == 0) = false := beq_false_of_ne (by omega)
  rw [wIn_small ha]
  unfold gv
  clear hv hk kk
  go_enter Tryd.func33, Tryd.ntmps33
  go_wp2_with fail
  refine (refWithin_any (a : Nat) 0 1099511627776 _).mono ?_
  rintro e W' ⟨rfl, rfl⟩
  go_wp2
  go_ret
  first | exact ⟨rfl, HB.out⟩ | exact ⟨ret_bool (by rw [Bool.eq_iff_iff]; simp), HB.out⟩
set_option maxRecDepth 100000 in
set_option maxHeartbeats 4000000 in
theorem fits_1big (b o n c : Nat) (hn : 1 < n) (a : Nat) (ha : ¬ a ≤ 4611686018427387904) (ha2 : a < 18446744073709551616) (k : Nat) (hk : k ≤ 3) (P : Int) (I B : Nat) (W : World) (hc : W.cell? ⟨b, o + 1, none⟩ = some (.int .u64 (a : Nat))) :
    Calls Tryd.prog 33 #[.slice (some ⟨b, o, none⟩) n c, .int .i64 1, .int .u8 (k : Nat), gv P (I : Nat) (B : Nat)] W fun e W' => e = .returned (.bool (wordOK 1 k a I B)) ∧ Below W.heap.size W W' := by
  have HB := Lib.hid ((Below.refl W.heap.size W).alloc (Nat.le_refl _) (.cells #[.int .i64 P, .int .i64 (I : Nat), .int .i64 (B : Nat)] 27))
  have hlt := World.block_lt_of_cell? W _ hc
  dsimp only at hlt
  have hn' : (1 : Int) < (n : Int) := by omega
  rw [wordOK_big (by decide) ha]
  have hbig : decide ((a : Int) > 4611686018427387904) = true := by simp; omega
  unfold gv
  clear ha
  go_enter Tryd.func33, Tryd.ntmps33
  go_wp2
  go_ret
  exact ⟨rfl, HB.out⟩
set_option maxRecDepth 100000 in
set_option maxHeartbeats 4000000 in
theorem fits_2big (b o n c : Nat) (hn : 2 < n) (a : Nat) (ha : ¬ a ≤ 4611686018427387904) (ha2 : a < 18446744073709551616) (k : Nat) (hk : k ≤ 3) (P : Int) (I B : Nat) (W : World) (hc : W.cell? ⟨b, o + 2, none⟩ = some (.int .u64 (a : Nat))) :
    Calls Tryd.prog 33 #[.slice (some ⟨b, o, none⟩) n c, .int .i64 2, .int .u8 (k : Nat), gv P (I : Nat) (B : Nat)] W fun e W' => e = .returned (.bool (wordOK 2 k a I B)) ∧ Below W.heap.size W W' := by
  have HB := Lib.hid ((Below.refl W.heap.size W).alloc (Nat.le_refl _) (.cells #[.int .i64 P, .int .i64 (I : Nat), .int .i64 (B : Nat)] 27))
  have hlt := World.block_lt_of_cell? W _ hc
  dsimp only at hlt
  have hn' : (2 : Int) < (n : Int) := by omega
  rw [wordOK_big (by decide) ha]
  have hbig : decide ((a : Int) > 4611686018427387904) = true := by simp; omega
  unfold gv
  clear ha
  go_enter Tryd.func33, Tryd.ntmps33
  go_wp2
  go_ret
  exact ⟨rfl, HB.out⟩
set_option maxRecDepth 100000 in
set_option maxHeartbeats 4000000 in
theorem fits_3big (b o n c : Nat) (hn : 3 < n) (a : Nat) (ha : ¬ a ≤ 4611686018427387904) (ha2 : a < 18446744073709551616) (k : Nat) (hk : k ≤ 3) (P : Int) (I B : Nat) (W : World) (hc : W.cell? ⟨b, o + 3, none⟩ = some (.int .u64 (a : Nat))) :
    Calls Tryd.prog 33 #[.slice (some ⟨b, o, none⟩) n c, .int .i64 3, .int .u8 (k : Nat), gv P (I : Nat) (B : Nat)] W fun e W' => e = .returned (.bool (wordOK 3 k a I B)) ∧ Below W.heap.size W W' := by
  have HB := Lib.hid ((Below.refl W.heap.size W).alloc (Nat.le_refl _) (.cells #[.int .i64 P, .int .i64 (I : Nat), .int .i64 (B : Nat)] 27))
  have hlt := World.block_lt_of_cell? W _ hc
  dsimp only at hlt
  have hn' : (3 : Int) < (n : Int) := by omega
  rw [wordOK_big (by decide) ha]
  have hbig : decide ((a : Int) > 4611686018427387904) = true := by simp; omega
  unfold gv
  clear ha
  go_enter Tryd.func33, Tryd.ntmps33
  go_wp2
  go_ret
  exact ⟨rfl, HB.out⟩
set_option maxRecDepth 100000 in
set_option maxHeartbeats 4000000 in
theorem fits_4big (b o n c : Nat) (hn : 4 < n) (a : Nat) (ha : ¬ a ≤ 4611686018427387904) (ha2 : a < 18446744073709551616) (k : Nat) (hk : k ≤ 3) (P : Int) (I B : Nat) (W : World) (hc : W.cell? ⟨b, o + 4, none⟩ = some (.int .u64 (a : Nat))) :
    Calls Tryd.prog 33 #[.slice (some ⟨b, o, none⟩) n c, .int .i64 4, .int .u8 (k : Nat), gv P (I : Nat) (B : Nat)] W fun e W' => e = .returned (.bool (wordOK 4 k a I B)) ∧ Below W.heap.size W W' := by
  have HB := Lib.hid ((Below.refl W.heap.size W).alloc (Nat.le_refl _) (.cells #[.int .i64 P, .int .i64 (I : Nat), .int .i64 (B : Nat)] 27))
  have hlt := World.block_lt_of_cell? W _ hc
  dsimp only at hlt
  have hn' : (4 : Int) < (n : Int) := by omega
  rw [wordOK_big (by decide) ha]
  have hbig : decide ((a : Int) > 4611686018427387904) = true := by simp; omega
  unfold gv
  clear ha
  go_enter Tryd.func33, Tryd.ntmps33
  go_wp2
  go_ret
  exact ⟨rfl, HB.out⟩
set_option maxRecDepth 100000 in
set_option maxHeartbeats 4000000 in
theorem fits_5big (b o n c : Nat) (hn : 5 < n) (a : Nat) (ha : ¬ a ≤ 4611686018427387904) (ha2 : a < 18446744073709551616) (k : Nat) (hk : k ≤ 3) (P : Int) (I B : Nat) (W : World) (hc : W.cell? ⟨b, o + 5, none⟩ = some (.int .u64 (a : Nat))) :
    Calls Tryd.prog 33 #[.slice (some ⟨b, o, none⟩) n c, .int .i64 5, .int .u8 (k : Nat), gv P (I : Nat) (B : Nat)] W fun e W' => e = .returned (.bool (wordOK 5 k a I B)) ∧ Below W.heap.size W W' := by
  have HB := Lib.hid ((Below.refl W.heap.size W).alloc (Nat.le_refl _) (.cells #[.int .i64 P, .int .i64 (I : Nat), .int .i64 (B : Nat)] 27))
  have hlt := World.block_lt_of_cell? W _ hc
  dsimp only at hlt
  have hn' : (5 : Int) < (n : Int) := by omega
  rw [wordOK_big (by decide) ha]
  have hbig : decide ((a : Int) > 4611686018427387904) = true := by simp; omega
  unfold gv
  clear ha
  go_enter Tryd.func33, Tryd.ntmps33
  go_wp2
  go_ret
  exact ⟨rfl, HB.out⟩
set_option maxRecDepth 100000 in
set_option maxHeartbeats 4000000 in
theorem fits_6big (b o n c : Nat) (hn : 6 < n) (a : Nat) (ha : ¬ a ≤ 4611686018427387904) (ha2 : a < 18446744073709551616) (k : Nat) (hk : k ≤ 3) (P : Int) (I B : Nat) (W : World) (hc : W.cell? ⟨b, o + 6, none⟩ = some (.int .u64 (a : Nat))) :
    Calls Tryd.prog 33 #[.slice (some ⟨b, o, none⟩) n c, .int .i64 6, .int .u8 (k : Nat), gv P (I : Nat) (B : Nat)] W fun e W' => e = .returned (.bool (wordOK 6 k a I B)) ∧ Below W.heap.size W W' := by
  have HB := Lib.hid ((Below.refl W.heap.size W).alloc (Nat.le_refl _) (.cells #[.int .i64 P, .int .i64 (I : Nat), .int .i64 (B : Nat)] 27))
  have hlt := World.block_lt_of_cell? W _ hc
  dsimp only at hlt
  have hn' : (6 : Int) < (n : Int) := by omega
  rw [wordOK_big (by decide) ha]
  have hbig : decide ((a : Int) > 4611686018427387904) = true := by simp; omega
  unfold gv
  clear ha
  go_enter Tryd.func33, Tryd.ntmps33
  go_wp2
  go_ret
  exact ⟨rfl, HB.out⟩
end
section
open Go.RowKit
set_option linter.unusedVariables false

set_option maxRecDepth 100000 in
set_option maxHeartbeats 8000000 in
theorem fits_3h (b o n c : Nat) (hn : 3 < n) (a : Nat) (ha : a ≤ 4611686018427387904) (k : Nat) (kk : k = 2) (P : Int) (I B : Nat) (hB : B < 65536) (W : World) (hc : W.cell? ⟨b, o + 3, none⟩ = some (.int .u64 (a : Nat))) :
    Calls Tryd.prog 33 #[.slice (some ⟨b, o, none⟩) n c, .int .i64 3, .int .u8 (k : Nat), gv P (I : Nat) (B : Nat)] W fun e W' => e = .returned (.bool (wordOK 3 k a I B)) ∧ Below W.heap.size W W' := by
  have HB := Lib.hid ((Below.refl W.heap.size W).alloc (Nat.le_refl _) (.cells #[.int .i64 P, .int .i64 (I : Nat), .int .i64 (B : Nat)] 27))
  have hlt := World.block_lt_of_cell? W _ hc
  dsimp only at hlt
  have hn' : (3 : Int) < (n : Int) := by omega
  have hv : wordOK 3 k a I B = (decide (a % 256 ≤ B ∧ a / 256 % 256 ≤ B ∧ a / 65536 % 256 ≤ B ∧ a / 16777216 % 256 ≤ B) && decide (a < 4294967296)) := by
    unfold wordOK
    rw [if_neg (by decide), if_neg (by omega), if_neg (by decide), if_neg (by decide), if_pos rfl, if_pos kk]
    unfold headsOK getW
    rw [Bool.eq_iff_iff]
    simp only [Bool.and_eq_true, decide_eq_true_eq, Nat.pow_zero, Nat.div_one, show (2 : Nat) ^ 8 = 256 from rfl, show (2 : Nat) ^ 16 = 65536 from rfl, show (2 : Nat) ^ 24 = 16777216 from rfl]
    omega
  rw [hv]
  have hbig : decide ((a : Int) > 4611686018427387904) = false := by simp; omega
  have hwr : IntKind.i64.wrap (a : Int) = (a : Int) := by rw [IntKind.wrap_i64]; omega
  have k2 : ((k : Int) == 2) = true := by simp; omega
  have k0 : ((k : Int) == 0) = false := beq_false_of_ne (by omega)
  unfold gv
  clear hv kk
  have l0 : a % 256 < 256 := Nat.mod_lt _ (by decide)
  have l1 : a / 256 % 256 < 256 := Nat.mod_lt _ (by decide)
  have l2 : a / 65536 % 256 < 256 := Nat.mod_lt _ (by decide)
  have l3 : a / 16777216 % 256 < 256 := Nat.mod_lt _ (by decide)
  have e0 : (a : Int) % 256 = ((a % 256 : Nat) : Int) := by omega
  have e1 : (a : Int) / 256 % 256 = ((a / 256 % 256 : Nat) : Int) := by omega
  have e2 : (a : Int) / 65536 % 256 = ((a / 65536 % 256 : Nat) : Int) := by omega
  have e3 : (a : Int) / 16777216 % 256 = ((a / 16777216 % 256 : Nat) : Int) := by omega
  generalize a % 256 = q0 at *
  generalize a / 256 % 256 = q1 at *
  generalize a / 65536 % 256 = q2 at *
  generalize a / 16777216 % 256 = q3 at *
  by_cases c0 : q0 ≤ B
  case neg =>
    have d0 : decide (B < q0) = true := by simp; omega
    rw [decide_eq_false (fun h => c0 h.1)]
    clear c0
    go_enter Tryd.func33, Tryd.ntmps33
    go_wp2
    refine wp_loop_rounds 5 ?_
    rw [rounds_succ]
    go_wp2
    go_ret
    exact ⟨rfl, HB.out⟩
  have d0 : decide (B < q0) = false := by simp; omega
  by_cases c1 : q1 ≤ B
  case neg =>
    have d1 : decide (B < q1) = true := by simp; omega
    rw [decide_eq_false (fun h => c1 h.2.1)]
    clear c0 c1
    go_enter Tryd.func33, Tryd.ntmps33
    go_wp2
    refine wp_loop_rounds 5 ?_
    rw [rounds_succ]
    go_wp2
    rw [rounds_succ]
    go_wp2
    go_ret
    exact ⟨rfl, HB.out⟩
  have d1 : decide (B < q1) = false := by simp; omega
  by_cases c2 : q2 ≤ B
  case neg =>
    have d2 : decide (B < q2) = true := by simp; omega
    rw [decide_eq_false (fun h => c2 h.2.2.1)]
    clear c0 c1 c2
    go_enter Tryd.func33, Tryd.ntmps33
    go_wp2
    refine wp_loop_rounds 5 ?_
    rw [rounds_succ]
    go_wp2
    rw [rounds_succ]
    go_wp2
    rw [rounds_succ]
    go_wp2
    go_ret
    exact ⟨rfl, HB.out⟩
  have d2 : decide (B < q2) = false := by simp; omega
  by_cases c3 : q3 ≤ B
  case neg =>
    have d3 : decide (B < q3) = true := by simp; omega
    rw [decide_eq_false (fun h => c3 h.2.2.2)]
    clear c0 c1 c2 c3
    go_enter Tryd.func33, Tryd.ntmps33
    go_wp2
    refine wp_loop_rounds 5 ?_
    rw [rounds_succ]
    go_wp2
    rw [rounds_succ]
    go_wp2
    rw [rounds_succ]
    go_wp2
    rw [rounds_succ]
    go_wp2
    go_ret
    exact ⟨rfl, HB.out⟩
  have d3 : decide (B < q3) = false := by simp; omega
  rw [decide_eq_true (⟨c0, c1, c2, c3⟩ : q0 ≤ B ∧ q1 ≤ B ∧ q2 ≤ B ∧ q3 ≤ B)]
  clear c0 c1 c2 c3
  go_enter Tryd.func33, Tryd.ntmps33
  go_wp2
  refine wp_loop_rounds 5 ?_
  rw [rounds_succ]
  go_wp2
  rw [rounds_succ]
  go_wp2
  rw [rounds_succ]
  go_wp2
  rw [rounds_succ]
  go_wp2
  rw [rounds_succ]
  go_wp2
  go_ret
  exact ⟨ret_bool (by rw [Bool.eq_iff_iff]; simp; omega), HB.out⟩
theorem fits_any (b o n c p : Nat) (hn : p < n) (hp : p < 7) (a : Nat) (ha : a < 18446744073709551616) (k : Nat) (hk : k < 256) (hpk : p = 0 ∨ k ≤ 3) (P : Int) (I B : Nat) (hB : B < 65536) (W : World) (hc : W.cell? ⟨b, o + p, none⟩ = some (.int .u64 (a : Nat))) :
    Calls Tryd.prog 33 #[.slice (some ⟨b, o, none⟩) n c, .int .i64 (p : Nat), .int .u8 (k : Nat), gv P (I : Nat) (B : Nat)] W fun e W' => e = .returned (.bool (wordOK p k a I B)) ∧ Below W.heap.size W W' := by
  by_cases h0 : p = 0
  · subst h0
    exact fits_0 b o n c hn a ha k hk P I B W hc
  have hk3 : k ≤ 3 := by omega
  by_cases hbig : a ≤ 4611686018427387904
  case neg =>
    rcases (show p = 1 ∨ p = 2 ∨ p = 3 ∨ p = 4 ∨ p = 5 ∨ p = 6 by omega) with rfl | rfl | rfl | rfl | rfl | rfl
    · exact fits_1big b o n c hn a hbig ha k hk3 P I B W hc
    · exact fits_2big b o n c hn a hbig ha k hk3 P I B W hc
    · exact fits_3big b o n c hn a hbig ha k hk3 P I B W hc
    · exact fits_4big b o n c hn a hbig ha k hk3 P I B W hc
    · exact fits_5big b o n c hn a hbig ha k hk3 P I B W hc
    · exact fits_6big b o n c hn a hbig ha k hk3 P I B W hc
  by_cases kz : k = 0
  · rcases (show p = 1 ∨ p = 2 ∨ p = 3 ∨ p = 4 ∨ p = 5 ∨ p = 6 by omega) with rfl | rfl | rfl | rfl | rfl | rfl
    · exact fits_1z b o n c hn a hbig k hk3 kz P I B hB W hc
    · exact fits_2z b o n c hn a hbig k hk3 kz P I B hB W hc
    · exact fits_3z b o n c hn a hbig k hk3 kz P I B hB W hc
    · exact fits_4z b o n c hn a hbig k hk3 kz P I B hB W hc
    · exact fits_5z b o n c hn a hbig k hk3 kz P I B hB W hc
    · exact fits_6z b o n c hn a hbig k hk3 kz P I B hB W hc
  rcases (show p = 1 ∨ p = 2 ∨ p = 3 ∨ p = 4 ∨ p = 5 ∨ p = 6 by omega) with rfl | rfl | rfl | rfl | rfl | rfl
  · rcases (show k = 1 ∨ k = 2 ∨ k = 3 by omega) with h | h | h
    · exact fits_1a b o n c hn a hbig k hk3 h P I B hB W hc
    · exact fits_1c b o n c hn a hbig k hk3 h P I B hB W hc
    · exact fits_1b b o n c hn a hbig k hk3 h P I B hB W hc
  · exact fits_2a b o n c hn a hbig k hk3 kz P I B hB W hc
  · rcases (show k = 1 ∨ k = 2 ∨ k = 3 by omega) with h | h | h
    · exact fits_3c b o n c hn a hbig k hk3 h P I B hB W hc
    · exact fits_3h b o n c hn a hbig k h P I B hB W hc
    · exact fits_3b b o n c hn a hbig k hk3 h P I B hB W hc
  · rcases (show k = 1 ∨ k = 2 ∨ k = 3 by omega) with h | h | h
    · exact fits_4b b o n c hn a hbig k hk3 (.inl h) P I B hB W hc
    · exact fits_4a b o n c hn a hbig k hk3 h P I B hB W hc
    · exact fits_4b b o n c hn a hbig k hk3 (.inr h) P I B hB W hc
  · exact fits_5a b o n c hn a hbig k hk3 kz P I B hB W hc
  · exact fits_6a b o n c hn a hbig k hk3 kz P I B hB W hc
end
end Go.Proofs.YtnpmepklgakaiaaDoor
