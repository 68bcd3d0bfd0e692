/- parcloseref01.Put: a word with a field put, bit by bit. -/
import Derived.Test.YtfmjhmgpnlmkkaaDoorRefBit
import Derived.Test.YtfmjhmgpnlmkkaaDoorBits
namespace Go.Proofs.YtfmjhmgpnlmkkaaDoor
open Go.RowKit
set_option linter.unusedVariables false

set_option maxHeartbeats 1000000 in
theorem refPut_no (x v : Nat) (a n : Int) (h : ¬ Fld a n) (w : World) :
    Calls Tryd.prog 31 #[.int .u64 x, .int .i64 a, .int .i64 n, .int .u64 v] w fun e w' => e = .returned (.tuple #[.int .u64 0, .int .i64 2]) ∧ w = w' := by
  go_enter Tryd.func31, Tryd.ntmps31
  go_wp2_with (go_at_call 47; refine (field_no _ _ h _).mono ?_; rintro e w' ⟨rfl, rfl⟩)
  go_ret2
  exact ⟨rfl, rfl⟩

/-- no bit from n on below i is 1 -/
def Clear (v n i : Nat) : Prop := ∀ j, n ≤ j → j < i → v.testBit j = false
theorem Clear.succ {v n i : Nat} (h : Clear v n i) (hb : v.testBit i = false) : Clear v n (i + 1) := by
  intro j h1 h2
  rcases Nat.lt_or_ge j i with h3 | h3
  · exact h j h1 h3
  · obtain rfl : j = i := by omega
    exact hb
theorem Clear.lt {v n : Nat} (hv : v < 2 ^ 64) (h : Clear v n 64) : v < 2 ^ n := by
  apply lt_of_testBit
  intro i hi
  by_cases h64 : i < 64
  · exact h i hi h64
  · exact Nat.testBit_lt_two_pow (Nat.lt_of_lt_of_le hv (Nat.pow_le_pow_right (by decide) (by omega)))
theorem bit_cast (v i : Nat) : (v : Int) / 2 ^ i % 2 = ((v / 2 ^ i % 2 : Nat) : Int) := by rw [div_pow]; rfl
theorem bit_one {v i : Nat} : (v : Int) / 2 ^ i % 2 = 1 ↔ v.testBit i = true := by
  rw [testBit_div, bit_cast, decide_eq_true_eq]; omega

set_option maxHeartbeats 2000000 in
theorem refPut_big (x v : Nat) (a n : Int) (h : Fld a n) (hv : v < 18446744073709551616) (hb : ¬ v < 2 ^ n.toNat) (w : World) :
    Calls Tryd.prog 31 #[.int .u64 x, .int .i64 a, .int .i64 n, .int .u64 v] w fun e w' => e = .returned (.tuple #[.int .u64 0, .int .i64 2]) ∧ w = w' := by
  have hF := h
  obtain ⟨h1, h2, h3, h4, h5⟩ := h
  obtain ⟨m, rfl⟩ := Int.eq_ofNat_of_zero_le (show 0 ≤ n by omega)
  rw [Int.toNat_natCast] at hb
  go_enter Tryd.func31, Tryd.ntmps31
  go_wp2_with (go_at_call 47; refine (field_yes _ _ hF _).mono ?_; rintro e w' ⟨rfl, rfl⟩)
  clear hF
  have HB := Lib.hid hb
  clear hb
  go_loop [10] (fun i => ∃ j : Nat, m ≤ j ∧ j ≤ 64 ∧ i = .int .i64 j ∧ Clear v m j) (fun i => 64 - (intOf i).toNat)
  case atStart => exact ⟨m, Nat.le_refl _, by omega, rfl, fun j a b => absurd b (by omega)⟩
  case round =>
    obtain ⟨j, hj1, hj2, rfl, hc⟩ := hrel
    have hlt : j < 64 := by
      rcases Nat.lt_or_ge j 64 with h | h
      · exact h
      · obtain rfl : j = 64 := by omega
        exact absurd (hc.lt hv) HB.out
    have Hc := Lib.hid hc
    clear hc
    by_cases hbit : v.testBit j = true
    · have hq : ((v : Int) / 2 ^ j % 2 == 1) = true := by rw [beq_iff_eq]; exact bit_one.2 hbit
      go_wp2_with fail
      refine (bit_any v _ hv (by omega) (by omega) _).mono ?_
      rintro e w' ⟨rfl, rfl⟩
      rw [Int.toNat_natCast]
      go_wp2
      go_ret2
      exact ⟨rfl, rfl⟩
    · have hq : ((v : Int) / 2 ^ j % 2 == 1) = false := by rw [beq_eq_false_iff_ne]; exact fun h => hbit (bit_one.1 h)
      have hbit' : v.testBit j = false := by simpa using hbit
      have Hb := Lib.hid hbit'
      clear hbit hbit'
      go_wp2_with fail
      refine (bit_any v _ hv (by omega) (by omega) _).mono ?_
      rintro e w' ⟨rfl, rfl⟩
      rw [Int.toNat_natCast]
      go_wp2
      go_round
      case rel => exact ⟨j + 1, by omega, by omega, by go_num, Hc.out.succ Hb.out⟩
      case measure => simp [intOf]; omega

theorem high_step (p k : Nat) (hk : k < 64) : 2 * (p / 2 ^ (64 - k)) + p / 2 ^ (63 - k) % 2 = p / 2 ^ (64 - (k + 1)) := by
  have e : 64 - k = (63 - k) + 1 := by omega
  have e2 : 64 - (k + 1) = 63 - k := by omega
  rw [e, e2, Nat.pow_succ, ← Nat.div_div_eq_div_mul]
  generalize p / 2 ^ (63 - k) = y
  omega
theorem high_lt {p k : Nat} (hp : p < 2 ^ 64) (hk : k < 64) : p / 2 ^ (64 - k) < 9223372036854775808 := by
  rw [Nat.div_lt_iff_lt_mul (Nat.two_pow_pos _)]
  refine Nat.lt_of_lt_of_le hp ?_
  have : 9223372036854775808 = 2 ^ 63 := by decide
  rw [this, ← Nat.pow_add]
  exact Nat.pow_le_pow_right (by decide) (by omega)
theorem bit_in {w a n v i : Nat} (h1 : a ≤ i) (h2 : i < a + n) : putW w a n v / 2 ^ i % 2 = v / 2 ^ (i - a) % 2 := by
  have := testBit_putW w a n v i
  rw [if_neg (by omega), if_pos h2, testBit_div, testBit_div] at this
  have hiff := decide_eq_decide.1 this
  have l1 := Nat.mod_two_eq_zero_or_one (putW w a n v / 2 ^ i)
  have l2 := Nat.mod_two_eq_zero_or_one (v / 2 ^ (i - a))
  omega
theorem bit_out {w a n v i : Nat} (h : i < a ∨ a + n ≤ i) : putW w a n v / 2 ^ i % 2 = w / 2 ^ i % 2 := by
  have := testBit_putW w a n v i
  have h2 : (if i < a then w.testBit i else if i < a + n then v.testBit (i - a) else w.testBit i) = w.testBit i := by
    rcases h with h | h
    · rw [if_pos h]
    · rw [if_neg (by omega), if_neg (by omega)]
  rw [h2, testBit_div, testBit_div] at this
  have hiff := decide_eq_decide.1 this
  have l1 := Nat.mod_two_eq_zero_or_one (putW w a n v / 2 ^ i)
  have l2 := Nat.mod_two_eq_zero_or_one (w / 2 ^ i)
  omega

set_option maxHeartbeats 4000000 in
theorem refPut_yes (x v : Nat) (a n : Int) (h : Fld a n) (hx : x < 18446744073709551616) (hv : v < 2 ^ n.toNat) (w : World) :
    Calls Tryd.prog 31 #[.int .u64 x, .int .i64 a, .int .i64 n, .int .u64 v] w fun e w' => e = .returned (.tuple #[.int .u64 (putW x a.toNat n.toNat v : Nat), .int .i64 0]) ∧ w = w' := by
  have hF := h
  obtain ⟨h1, h2, h3, h4, h5⟩ := h
  obtain ⟨m, rfl⟩ := Int.eq_ofNat_of_zero_le (show 0 ≤ n by omega)
  obtain ⟨b, rfl⟩ := Int.eq_ofNat_of_zero_le h1
  rw [Int.toNat_natCast, Int.toNat_natCast] at *
  have hv64 : v < 18446744073709551616 := Nat.lt_of_lt_of_le hv (show 2 ^ m ≤ 2 ^ 64 from Nat.pow_le_pow_right (by decide) (by omega))
  have hp : putW x b m v < 2 ^ 64 := putW_lt hx (by omega)
  have HV := Lib.hid hv
  have HP := Lib.hid hp
  clear hv hp
  go_enter Tryd.func31, Tryd.ntmps31
  go_wp2_with (go_at_call 47; refine (field_yes _ _ hF _).mono ?_; rintro e w' ⟨rfl, rfl⟩)
  clear hF
  go_loop [10] (fun i => ∃ j : Nat, m ≤ j ∧ j ≤ 64 ∧ i = .int .i64 j) (fun i => 64 - (intOf i).toNat)
  case atStart => exact ⟨m, Nat.le_refl _, by omega, rfl⟩
  case round =>
    obtain ⟨j, hj1, hj2, rfl⟩ := hrel
    by_cases hlt : j < 64
    · have hq : ((v : Int) / 2 ^ j % 2 == 1) = false := by
        rw [beq_eq_false_iff_ne]
        intro h
        have := bit_one.1 h
        rw [Nat.testBit_lt_two_pow (Nat.lt_of_lt_of_le HV.out (Nat.pow_le_pow_right (by decide) hj1))] at this
        cases this
      go_wp2_with fail
      refine (bit_any v _ hv64 (by omega) (by omega) _).mono ?_
      rintro e w' ⟨rfl, rfl⟩
      rw [Int.toNat_natCast]
      go_wp2
      go_round
      case rel => exact ⟨j + 1, by omega, by omega, by go_num⟩
      case measure => simp [intOf]; omega
    · obtain rfl : j = 64 := by omega
      go_wp2
      go_loop [11, 12, 13] (fun y i _ => ∃ k : Nat, k ≤ 64 ∧ i = .int .i64 (63 - (k : Int)) ∧ y = .int .u64 (putW x b m v / 2 ^ (64 - k) : Nat)) (fun _ i _ => (intOf i + 1).toNat)
      case atStart =>
        exact ⟨0, by omega, by go_num, by rw [Nat.div_eq_of_lt (by simpa using HP.out)]; rfl⟩
      case round =>
        obtain ⟨k, hk, rfl, rfl⟩ := hrel
        by_cases hlt2 : k < 64
        · have hst := high_step (putW x b m v) k hlt2
          have hl := high_lt HP.out hlt2
          have hb1 : (b ≤ 63 - k ∧ 63 - k < b + m) → putW x b m v / 2 ^ (63 - k) % 2 = v / 2 ^ (63 - k - b) % 2 := fun h => bit_in h.1 h.2
          have hb2 : ¬ (b ≤ 63 - k ∧ 63 - k < b + m) → putW x b m v / 2 ^ (63 - k) % 2 = x / 2 ^ (63 - k) % 2 := fun h => bit_out (by omega)
          generalize putW x b m v / 2 ^ (64 - k) = y at *
          generalize putW x b m v / 2 ^ (63 - k) % 2 = c at *
          have Hst := Lib.hid hst
          have HB1 := Lib.hid hb1
          have HB2 := Lib.hid hb2
          have hxb : x / 2 ^ (63 - k) % 2 < 2 := Nat.mod_lt _ (by decide)
          have hvb : v / 2 ^ (63 - k - b) % 2 < 2 := Nat.mod_lt _ (by decide)
          clear hst hb1 hb2
          go_wp2_with fail
          refine (bit_any x _ hx (by omega) (by omega) _).mono ?_
          rintro e w' ⟨rfl, rfl⟩
          rw [show (63 - (k : Int)).toNat = 63 - k by omega]
          by_cases hin : b ≤ 63 - k ∧ 63 - k < b + m
          · have hc := HB1.out hin
            obtain ⟨hi1, hi2⟩ := hin
            have ht1 : (b : Int) ≤ 63 - (k : Int) := by omega
            have ht2 : 63 - (k : Int) < (b : Int) + (m : Int) := by omega
            have Hc := Lib.hid hc
            clear hc
            go_wp2_with fail
            refine (bit_any v _ hv64 (by omega) (by omega) _).mono ?_
            rintro e w' ⟨rfl, rfl⟩
            rw [show (63 - (k : Int) - (b : Int)).toNat = 63 - k - b by omega, ← Hc.out]
            rw [← Hc.out] at hvb
            go_wp2
            go_round
            case rel => exact ⟨k + 1, by omega, by go_num, by rw [← Hst.out]; go_num⟩
            case measure => simp [intOf]; omega
          · have hc := HB2.out hin
            rw [← hc] at hxb ⊢
            clear hc
            rcases (show (63 - (k : Int) < (b : Int)) ∨ ((b : Int) ≤ 63 - (k : Int) ∧ (b : Int) + (m : Int) ≤ 63 - (k : Int)) by omega) with ht | ⟨ht1, ht2⟩
            · clear hin
              go_wp2
              go_round
              case rel => exact ⟨k + 1, by omega, by go_num, by rw [← Hst.out]; go_num⟩
              case measure => simp [intOf]; omega
            · have hd : decide (63 - (k : Int) < (b : Int) + (m : Int)) = false := by simp; omega
              clear hin
              go_wp2
              go_round
              case rel => exact ⟨k + 1, by omega, by go_num, by rw [← Hst.out]; go_num⟩
              case measure => simp [intOf]; omega
        · obtain rfl : k = 64 := by omega
          go_wp2
          go_ret2
          exact ⟨congrArg (fun z : Nat => Ending.returned (.tuple #[.int .u64 z, .int .i64 0])) (by simp), rfl⟩
end Go.Proofs.YtfmjhmgpnlmkkaaDoor
