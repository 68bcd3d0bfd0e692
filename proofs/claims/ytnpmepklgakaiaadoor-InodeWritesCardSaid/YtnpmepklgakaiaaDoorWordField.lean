/- word.mask, Get, Put. -/
import Derived.Test.YtnpmepklgakaiaaDoorRefPut
namespace Go.Proofs.YtnpmepklgakaiaaDoor
open Go.RowKit
set_option linter.unusedVariables false

theorem ones_shr (n : Nat) (hn : n ≤ 64) (h1 : 1 ≤ n) : (18446744073709551615 : Nat) / 2 ^ (64 - n) = 2 ^ n - 1 := by
  have e : 2 ^ 64 = 2 ^ (64 - n) * 2 ^ n := by rw [← Nat.pow_add]; congr 1; omega
  have hp := Nat.two_pow_pos (64 - n)
  have hq := Nat.two_pow_pos n
  have e2 : 18446744073709551615 = 2 ^ (64 - n) * (2 ^ n - 1) + (2 ^ (64 - n) - 1) := by
    have : 2 ^ (64 - n) * (2 ^ n - 1) = 2 ^ (64 - n) * 2 ^ n - 2 ^ (64 - n) := by rw [Nat.mul_sub, Nat.mul_one]
    rw [this, ← e]
    have h64 : (2 : Nat) ^ 64 = 18446744073709551616 := by decide
    have : 2 ^ (64 - n) ≤ 2 ^ 64 := Nat.pow_le_pow_right (by decide) (by omega)
    omega
  conv => lhs; rw [e2]
  rw [Nat.mul_add_div hp, Nat.div_eq_of_lt (by omega)]
  omega

theorem mask_val (a n : Nat) (h1 : 1 ≤ n) (h : a + n ≤ 64) : IntKind.u64.wrap ((18446744073709551615 : Int) / 2 ^ (64 - n) * 2 ^ a) = ((mask a n : Nat) : Int) := by
  have e : (18446744073709551615 : Int) / 2 ^ (64 - n) * 2 ^ a = ((mask a n : Nat) : Int) := by
    rw [show ((18446744073709551615 : Int)) = ((18446744073709551615 : Nat) : Int) by rfl, div_pow, ones_shr n (by omega) h1]
    unfold mask
    rw [Nat.mul_comm (2 ^ a)]
    push_cast
    rfl
  rw [e, IntKind.wrap_u64]
  have := mask_lt h
  omega
theorem ret_u64b {x y : Int} {b : Bool} (h : x = y) : Ending.returned (.tuple #[.int .u64 x, .bool b]) = .returned (.tuple #[.int .u64 y, .bool b]) := by rw [h]
theorem ret_u64e {x y e : Int} (h : x = y) : Ending.returned (.tuple #[.int .u64 x, .int .i64 e]) = .returned (.tuple #[.int .u64 y, .int .i64 e]) := by rw [h]

set_option maxHeartbeats 1000000 in
theorem mask_yes (a n : Int) (h : Fld a n) (w : World) :
    Calls Tryd.prog 39 #[.int .i64 a, .int .i64 n] w fun e w' => e = .returned (.tuple #[.int .u64 (mask a.toNat n.toNat : Nat), .bool true]) ∧ w = w' := by
  obtain ⟨h1, h2, h3, h4, h5⟩ := h
  obtain ⟨a, rfl⟩ := Int.eq_ofNat_of_zero_le h1
  obtain ⟨n, rfl⟩ := Int.eq_ofNat_of_zero_le (show 0 ≤ n by omega)
  have HM := Lib.hid (mask_val a n (by omega) (by omega))
  go_enter Tryd.func39, Tryd.ntmps39
  go_wp2
  go_ret2
  exact ⟨ret_u64b HM.out, rfl⟩
set_option maxHeartbeats 1000000 in
theorem mask_no (a n : Int) (h : ¬ Fld a n) (ha1 : -9223372036854775808 ≤ a) (ha2 : a ≤ 9223372036854775807) (hn1 : -9223372036854775808 ≤ n) (hn2 : n ≤ 9223372036854775807) (w : World) :
    Calls Tryd.prog 39 #[.int .i64 a, .int .i64 n] w fun e w' => e = .returned (.tuple #[.int .u64 0, .bool false]) ∧ w = w' := by
  have hh : (a < 0) ∨ (0 ≤ a ∧ 63 < a) ∨ (0 ≤ a ∧ a ≤ 63 ∧ n < 1) ∨ (0 ≤ a ∧ a ≤ 63 ∧ 1 ≤ n ∧ 64 - a < n) := by
    unfold Fld at h; omega
  clear h
  rcases hh with h1 | ⟨h1, h2⟩ | ⟨h1, h2, h3⟩ | ⟨h1, h2, h3, h4⟩
  all_goals
    go_enter Tryd.func39, Tryd.ntmps39
    go_wp2
    go_ret2
    exact ⟨rfl, rfl⟩

set_option maxHeartbeats 1000000 in
theorem Get_yes (x : Nat) (a n : Int) (hx : x < 18446744073709551616) (h : Fld a n) (w : World) :
    Calls Tryd.prog 54 #[.int .u64 x, .int .i64 a, .int .i64 n] w fun e w' => e = .returned (.tuple #[.int .u64 (getW x a.toNat n.toNat : Nat), .int .i64 0]) ∧ w = w' := by
  have HM := Lib.hid (fun W => mask_yes a n h W)
  obtain ⟨h1, h2, h3, h4, h5⟩ := h
  obtain ⟨a, rfl⟩ := Int.eq_ofNat_of_zero_le h1
  obtain ⟨n, rfl⟩ := Int.eq_ofNat_of_zero_le (show 0 ≤ n by omega)
  rw [Int.toNat_natCast, Int.toNat_natCast] at *
  have hm := mask_lt (a := a) (n := n) (by omega)
  have HA := Lib.hid (show bits BinOp.and IntKind.u64 (x : Int) ((mask a n : Nat) : Int) = ((x &&& mask a n : Nat) : Int) from u64_and_nat x (mask a n) hx hm)
  have HV := Lib.hid (and_mask x a n)
  go_enter Tryd.func54, Tryd.ntmps54
  go_wp2_with fail
  refine (HM.out _).mono ?_
  rintro e w' ⟨rfl, rfl⟩
  go_wp2
  go_ret2
  exact ⟨ret_u64e (by rw [HA.out, div_pow, HV.out]), rfl⟩
set_option maxHeartbeats 1000000 in
theorem Get_no (x : Nat) (a n : Int) (h : ¬ Fld a n) (ha1 : -9223372036854775808 ≤ a) (ha2 : a ≤ 9223372036854775807) (hn1 : -9223372036854775808 ≤ n) (hn2 : n ≤ 9223372036854775807) (w : World) :
    Calls Tryd.prog 54 #[.int .u64 x, .int .i64 a, .int .i64 n] w fun e w' => e = .returned (.tuple #[.int .u64 0, .int .i64 2]) ∧ w = w' := by
  have HM := Lib.hid (fun W => mask_no a n h ha1 ha2 hn1 hn2 W)
  clear h
  go_enter Tryd.func54, Tryd.ntmps54
  go_wp2_with fail
  refine (HM.out _).mono ?_
  rintro e w' ⟨rfl, rfl⟩
  go_wp2
  go_ret2
  exact ⟨rfl, rfl⟩
end Go.Proofs.YtnpmepklgakaiaaDoor
