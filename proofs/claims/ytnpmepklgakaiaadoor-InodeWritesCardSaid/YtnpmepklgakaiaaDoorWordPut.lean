/- word.Put, and what it gives on both sides. -/
import Derived.Test.YtnpmepklgakaiaaDoorWordField
import Derived.Test.YtnpmepklgakaiaaDoorRefGet
namespace Go.Proofs.YtnpmepklgakaiaaDoor
open Go.RowKit
set_option linter.unusedVariables false

theorem shl_in {v a n : Nat} (hv : v < 2 ^ n) (h : a + n ≤ 64) : v * 2 ^ a < 18446744073709551616 := by
  have h1 : v * 2 ^ a < 2 ^ n * 2 ^ a := Nat.mul_lt_mul_of_pos_right hv (Nat.two_pow_pos a)
  rw [← Nat.pow_add] at h1
  exact Nat.lt_of_lt_of_le h1 (show 2 ^ (n + a) ≤ 2 ^ 64 from Nat.pow_le_pow_right (by decide) (by omega))
theorem shl_val {v a n : Nat} (hv : v < 2 ^ n) (h : a + n ≤ 64) : IntKind.u64.wrap ((v : Int) * 2 ^ a) = ((v * 2 ^ a : Nat) : Int) := by
  have e : (v : Int) * 2 ^ a = ((v * 2 ^ a : Nat) : Int) := by push_cast; rfl
  rw [e, IntKind.wrap_u64]
  have := shl_in hv h
  omega
theorem mask_down (a n : Nat) : mask a n / 2 ^ a = 2 ^ n - 1 := by
  unfold mask
  rw [Nat.mul_comm, Nat.mul_div_cancel _ (Nat.two_pow_pos a)]
theorem put_val {w a n v : Nat} (hw : w < 18446744073709551616) (hv : v < 2 ^ n) (h : a + n ≤ 64) :
    bits BinOp.or IntKind.u64 (bits BinOp.andNot IntKind.u64 (w : Int) ((mask a n : Nat) : Int)) (IntKind.u64.wrap ((v : Int) * 2 ^ a)) = ((putW w a n v : Nat) : Int) := by
  rw [shl_val hv h, u64_andNot_nat _ _ hw (mask_lt h), u64_or_nat _ _ (Nat.lt_of_le_of_lt Nat.and_le_left hw) (shl_in hv h), put_mask hw hv h]

set_option maxHeartbeats 1000000 in
theorem Put_yes (x v : Nat) (a n : Int) (h : Fld a n) (hx : x < 18446744073709551616) (hv : v < 2 ^ n.toNat) (w : World) :
    Calls Tryd.prog 28 #[.int .u64 x, .int .i64 a, .int .i64 n, .int .u64 v] w fun e w' => e = .returned (.tuple #[.int .u64 (putW x a.toNat n.toNat v : Nat), .int .i64 0]) ∧ w = w' := by
  have HM := Lib.hid (fun W => mask_yes a n h W)
  obtain ⟨h1, h2, h3, h4, h5⟩ := h
  obtain ⟨a, rfl⟩ := Int.eq_ofNat_of_zero_le h1
  obtain ⟨n, rfl⟩ := Int.eq_ofNat_of_zero_le (show 0 ≤ n by omega)
  rw [Int.toNat_natCast, Int.toNat_natCast] at *
  have HP := Lib.hid (put_val hx hv (show a + n ≤ 64 by omega))
  have hd : decide (((mask a n : Nat) : Int) / 2 ^ a < (v : Int)) = false := by
    rw [div_pow, mask_down]
    have := Nat.two_pow_pos n
    simp only [decide_eq_false_iff_not]
    omega
  clear hv
  generalize mask a n = M at *
  go_enter Tryd.func28, Tryd.ntmps28
  go_wp2_with fail
  refine (HM.out _).mono ?_
  rintro e w' ⟨rfl, rfl⟩
  go_wp2
  go_ret2
  exact ⟨ret_u64e HP.out, rfl⟩
set_option maxHeartbeats 1000000 in
theorem Put_big (x v : Nat) (a n : Int) (h : Fld a n) (hb : ¬ v < 2 ^ n.toNat) (w : World) :
    Calls Tryd.prog 28 #[.int .u64 x, .int .i64 a, .int .i64 n, .int .u64 v] w fun e w' => e = .returned (.tuple #[.int .u64 0, .int .i64 2]) ∧ w = w' := by
  have HM := Lib.hid (fun W => mask_yes a n h W)
  obtain ⟨h1, h2, h3, h4, h5⟩ := h
  obtain ⟨a, rfl⟩ := Int.eq_ofNat_of_zero_le h1
  obtain ⟨n, rfl⟩ := Int.eq_ofNat_of_zero_le (show 0 ≤ n by omega)
  rw [Int.toNat_natCast] at *
  have hd : decide (((mask a n : Nat) : Int) / 2 ^ a < (v : Int)) = true := by
    rw [div_pow, mask_down]
    have := Nat.two_pow_pos n
    simp only [decide_eq_true_eq]
    omega
  clear hb
  rw [Int.toNat_natCast] at HM
  generalize mask a n = M at *
  go_enter Tryd.func28, Tryd.ntmps28
  go_wp2_with fail
  refine (HM.out _).mono ?_
  rintro e w' ⟨rfl, rfl⟩
  go_wp2
  go_ret2
  exact ⟨rfl, rfl⟩
set_option maxHeartbeats 1000000 in
theorem Put_no (x v : Nat) (a n : Int) (h : ¬ Fld a n) (ha1 : -9223372036854775808 ≤ a) (ha2 : a ≤ 9223372036854775807) (hn1 : -9223372036854775808 ≤ n) (hn2 : n ≤ 9223372036854775807) (w : World) :
    Calls Tryd.prog 28 #[.int .u64 x, .int .i64 a, .int .i64 n, .int .u64 v] w fun e w' => e = .returned (.tuple #[.int .u64 0, .int .i64 2]) ∧ w = w' := by
  have HM := Lib.hid (fun W => mask_no a n h ha1 ha2 hn1 hn2 W)
  clear h
  go_enter Tryd.func28, Tryd.ntmps28
  go_wp2_with fail
  refine (HM.out _).mono ?_
  rintro e w' ⟨rfl, rfl⟩
  go_wp2
  go_ret2
  exact ⟨rfl, rfl⟩

/-! ### in one wording -/
instance (a n : Int) : Decidable (Fld a n) := by unfold Fld; infer_instance
/-- a word, and an error -/
def OutW (w : World) (x : Nat) (e : Int) (r : Ending) (w' : World) : Prop := r = .returned (.tuple #[.int .u64 (x : Int), .int .i64 e]) ∧ w = w'
def getOut (x : Nat) (a n : Int) : Nat × Int := if Fld a n then (getW x a.toNat n.toNat, 0) else (0, 2)
def putOut (x : Nat) (a n : Int) (v : Nat) : Nat × Int := if Fld a n ∧ v < 2 ^ n.toNat then (putW x a.toNat n.toNat v, 0) else (0, 2)
theorem Get_any (x : Nat) (a n : Int) (hx : x < 18446744073709551616) (ha1 : -9223372036854775808 ≤ a) (ha2 : a ≤ 9223372036854775807) (hn1 : -9223372036854775808 ≤ n) (hn2 : n ≤ 9223372036854775807) (w : World) :
    Calls Tryd.prog 54 #[.int .u64 x, .int .i64 a, .int .i64 n] w (OutW w (getOut x a n).1 (getOut x a n).2) := by
  unfold getOut
  by_cases h : Fld a n
  · rw [if_pos h]; exact Get_yes x a n hx h w
  · rw [if_neg h]; exact Get_no x a n h ha1 ha2 hn1 hn2 w
theorem refGet_any (x : Nat) (a n : Int) (hx : x < 18446744073709551616) (w : World) :
    Calls Tryd.prog 51 #[.int .u64 x, .int .i64 a, .int .i64 n] w (OutW w (getOut x a n).1 (getOut x a n).2) := by
  unfold getOut
  by_cases h : Fld a n
  · rw [if_pos h]; exact refGet_yes x a n hx h w
  · rw [if_neg h]; exact refGet_no x a n h w
theorem Put_any (x v : Nat) (a n : Int) (hx : x < 18446744073709551616) (ha1 : -9223372036854775808 ≤ a) (ha2 : a ≤ 9223372036854775807) (hn1 : -9223372036854775808 ≤ n) (hn2 : n ≤ 9223372036854775807) (w : World) :
    Calls Tryd.prog 28 #[.int .u64 x, .int .i64 a, .int .i64 n, .int .u64 v] w (OutW w (putOut x a n v).1 (putOut x a n v).2) := by
  unfold putOut
  by_cases h : Fld a n
  · by_cases hv : v < 2 ^ n.toNat
    · rw [if_pos ⟨h, hv⟩]; exact Put_yes x v a n h hx hv w
    · rw [if_neg (fun hh => hv hh.2)]; exact Put_big x v a n h hv w
  · rw [if_neg (fun hh => h hh.1)]; exact Put_no x v a n h ha1 ha2 hn1 hn2 w
end Go.Proofs.YtnpmepklgakaiaaDoor
