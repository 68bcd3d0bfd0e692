/- parcloseref01.Get: what it returns. -/
import Derived.Test.YtnpmepklgakaiaaDoorRefBit
namespace Go.Proofs.YtnpmepklgakaiaaDoor
open Go.RowKit
set_option linter.unusedVariables false

/-- the k highest bits of a field of n -/
theorem get_step (x a n k : Nat) (hk : k < n) : 2 * (x / 2 ^ (a + (n - k)) % 2 ^ k) + x / 2 ^ (a + (n - 1 - k)) % 2 = x / 2 ^ (a + (n - (k + 1))) % 2 ^ (k + 1) := by
  have e : a + (n - k) = (a + (n - (k + 1))) + 1 := by omega
  have e2 : a + (n - 1 - k) = a + (n - (k + 1)) := by omega
  rw [e, e2, Nat.pow_succ 2 (a + (n - (k + 1))), ← Nat.div_div_eq_div_mul]
  generalize x / 2 ^ (a + (n - (k + 1))) = y
  rw [Nat.pow_succ, Nat.mul_comm (2 ^ k) 2, Nat.mod_mul]
  omega
theorem get_le (x a n k : Nat) (hn : n ≤ 64) (hk : k ≤ n) : x / 2 ^ (a + (n - k)) % 2 ^ k < 2 ^ k := Nat.mod_lt _ (Nat.two_pow_pos k)

set_option maxHeartbeats 1000000 in
theorem refGet_yes (x : Nat) (a n : Int) (hx : x < 18446744073709551616) (h : Fld a n) (w : World) :
    Calls Tryd.prog 51 #[.int .u64 x, .int .i64 a, .int .i64 n] w fun e w' => e = .returned (.tuple #[.int .u64 (x / 2 ^ a.toNat % 2 ^ n.toNat : Nat), .int .i64 0]) ∧ w = w' := by
  have hF := h
  obtain ⟨h1, h2, h3, h4, h5⟩ := h
  go_enter Tryd.func51, Tryd.ntmps51
  go_wp2_with (go_at_call 57; refine (field_yes _ _ hF _).mono ?_; rintro e w' ⟨rfl, rfl⟩)
  clear hF
  obtain ⟨b, rfl⟩ := Int.eq_ofNat_of_zero_le h1
  obtain ⟨m, rfl⟩ := Int.eq_ofNat_of_zero_le (show 0 ≤ n by omega)
  go_loop [8, 9] (fun v i => ∃ k : Nat, k ≤ m ∧ i = .int .i64 ((m : Int) - 1 - k) ∧ v = .int .u64 (x / 2 ^ (b + (m - k)) % 2 ^ k : Nat)) (fun _ i => (intOf i + 1).toNat)
  case atStart => exact ⟨0, by omega, by go_num, by simp [Nat.mod_one]⟩
  case round =>
    obtain ⟨k, hk, rfl, rfl⟩ := hrel
    by_cases hlt : k < m
    · have H1 := Lib.hid (get_step x b m k hlt)
      have hv : x / 2 ^ (b + (m - k)) % 2 ^ k < 9223372036854775808 := by
        refine Nat.lt_of_lt_of_le (get_le x b m k (by omega) hk) ?_
        exact Nat.le_trans (Nat.pow_le_pow_right (by decide) (show k ≤ 63 by omega)) (by decide)
      generalize hgv : x / 2 ^ (b + (m - k)) % 2 ^ k = v at *
      have Hv := Lib.hid hgv
      clear hgv
      have hbit : x / 2 ^ (b + (m - 1 - k)) % 2 < 2 := Nat.mod_lt _ (by decide)
      generalize hgb : x / 2 ^ (b + (m - 1 - k)) % 2 = c at *
      have Hb := Lib.hid hgb
      clear hgb
      go_wp2_with fail
      refine (bit_any x _ hx (by omega) (by omega) _).mono ?_
      rintro e w' ⟨rfl, rfl⟩
      rw [show ((b : Int) + ((m : Int) - 1 - k)).toNat = b + (m - 1 - k) by omega, Hb.out]
      go_wp2
      go_round
      case rel => exact ⟨k + 1, by omega, by go_num, by rw [← H1.out]; go_num⟩
      case measure => simp [intOf]; omega
    · obtain rfl : k = m := by omega
      go_wp2
      go_ret2
      exact ⟨congrArg (fun z : Nat => Ending.returned (.tuple #[.int .u64 z, .int .i64 0])) (by simp), rfl⟩

set_option maxHeartbeats 1000000 in
theorem refGet_no (x : Nat) (a n : Int) (h : ¬ Fld a n) (w : World) :
    Calls Tryd.prog 51 #[.int .u64 x, .int .i64 a, .int .i64 n] w fun e w' => e = .returned (.tuple #[.int .u64 0, .int .i64 2]) ∧ w = w' := by
  go_enter Tryd.func51, Tryd.ntmps51
  go_wp2_with (go_at_call 57; refine (field_no _ _ h _).mono ?_; rintro e w' ⟨rfl, rfl⟩)
  go_ret2
  exact ⟨rfl, rfl⟩
end Go.Proofs.YtnpmepklgakaiaaDoor
