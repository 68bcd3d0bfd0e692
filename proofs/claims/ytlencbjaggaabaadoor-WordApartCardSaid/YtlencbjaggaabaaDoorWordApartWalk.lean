/- The walk of the law WordApart. -/
import Derived.Test.YtlencbjaggaabaaDoorWordAlive
namespace Go.Proofs.YtlencbjaggaabaaDoor
open Go.RowKit
set_option linter.unusedVariables false

theorem Put_not (x v : Nat) (a n : Int) (hx : x < 18446744073709551616) (ha1 : -9223372036854775808 ≤ a) (ha2 : a ≤ 9223372036854775807) (hn1 : -9223372036854775808 ≤ n) (hn2 : n ≤ 9223372036854775807) (h : ¬ (Fld a n ∧ v < 2 ^ n.toNat)) (w : World) :
    Calls Tryd.prog 10 #[.int .u64 x, .int .i64 a, .int .i64 n, .int .u64 v] w fun e w' => e = .returned (.tuple #[.int .u64 0, .int .i64 2]) ∧ w = w' := by
  have := Put_any x v a n hx ha1 ha2 hn1 hn2 w
  unfold putOut at this
  rw [if_neg h] at this
  exact this
theorem Put_nat (x v a n : Nat) (hx : x < 18446744073709551616) (h : Fld a n) (hv : v < 2 ^ n) (w : World) :
    Calls Tryd.prog 10 #[.int .u64 x, .int .i64 a, .int .i64 n, .int .u64 v] w fun e w' => e = .returned (.tuple #[.int .u64 (putW x a n v : Nat), .int .i64 0]) ∧ w = w' := Put_yes x v a n h hx hv w
theorem Get_nat (x a n : Nat) (hx : x < 18446744073709551616) (h : Fld a n) (w : World) :
    Calls Tryd.prog 8 #[.int .u64 x, .int .i64 a, .int .i64 n] w fun e w' => e = .returned (.tuple #[.int .u64 (getW x a n : Nat), .int .i64 0]) ∧ w = w' := Get_yes x a n hx h w

set_option maxHeartbeats 4000000 in
theorem wordApart_walk (w : World) (ht : Tab w) (x : Nat) (hx : x < 18446744073709551616) (a : Int) (ha1 : -9223372036854775808 ≤ a) (ha2 : a ≤ 9223372036854775807) (n : Int) (hn1 : -9223372036854775808 ≤ n) (hn2 : n ≤ 9223372036854775807)
    (b : Int) (hb1 : -9223372036854775808 ≤ b) (hb2 : b ≤ 9223372036854775807) (m : Int) (hm1 : -9223372036854775808 ≤ m) (hm2 : m ≤ 9223372036854775807) (v : Nat) (hv : v < 18446744073709551616) (u : Nat) (hu : u < 18446744073709551616) :
    Calls Tryd.prog 4 #[.int .u64 x, .int .i64 a, .int .i64 n, .int .i64 b, .int .i64 m, .int .u64 v, .int .u64 u] w fun e w' => e = .returned (.bool true) ∧ Below w.heap.size w w' := by
  have HA := Lib.hid (alive_any w ht)
  clear ht
  by_cases h1 : Fld a n ∧ v < 2 ^ n.toNat
  case neg =>
    have HP := Lib.hid (Put_not x v a n hx ha1 ha2 hn1 hn2 h1 w)
    clear h1
    go_enter Tryd.func4, Tryd.ntmps4
    go_wp2_with fail
    refine HP.out.mono ?_
    rintro e w' ⟨rfl, rfl⟩
    go_wp2_with fail
    refine HA.out.mono ?_
    rintro e w' ⟨rfl, hb⟩
    have Hb := Lib.hid hb
    clear hb
    go_wp2
    go_ret
    exact ⟨rfl, Hb.out⟩
  obtain ⟨f1, hv1⟩ := h1
  obtain ⟨a, rfl⟩ := Int.eq_ofNat_of_zero_le f1.1
  obtain ⟨n, rfl⟩ := Int.eq_ofNat_of_zero_le (show 0 ≤ n by have := f1.2.2.1; omega)
  rw [Int.toNat_natCast] at hv1
  have hf1 := f1
  have han : a + n ≤ 64 := by unfold Fld at f1; omega
  have HP := Lib.hid (Put_nat x v a n hx f1 hv1 w)
  have hy : putW x a n v < 18446744073709551616 := putW_lt hx han
  have hg := get_put x a n v hv1
  have HG := Lib.hid (Get_nat (putW x a n v) a n hy f1 w)
  rw [hg] at HG
  have e1 : ((v : Int) != (v : Int)) = false := by simp
  have e1' : ((v : Int) == (v : Int)) = true := by simp
  by_cases h2 : Fld b m ∧ u < 2 ^ m.toNat
  case neg =>
    have HQ := Lib.hid (Put_not (putW x a n v) u b m hy hb1 hb2 hm1 hm2 h2 w)
    clear h2 hf1 f1 hv1 hg
    generalize putW x a n v = y at *
    go_enter Tryd.func4, Tryd.ntmps4
    go_wp2_with fail
    refine HP.out.mono ?_
    rintro e w' ⟨rfl, rfl⟩
    go_wp2_with fail
    refine HG.out.mono ?_
    rintro e w' ⟨rfl, rfl⟩
    go_wp2_with fail
    refine HQ.out.mono ?_
    rintro e w' ⟨rfl, rfl⟩
    go_wp2_with fail
    refine HA.out.mono ?_
    rintro e w' ⟨rfl, hb⟩
    have Hb := Lib.hid hb
    clear hb
    go_wp2
    go_ret
    exact ⟨rfl, Hb.out⟩
  obtain ⟨f2, hu1⟩ := h2
  obtain ⟨b, rfl⟩ := Int.eq_ofNat_of_zero_le f2.1
  obtain ⟨m, rfl⟩ := Int.eq_ofNat_of_zero_le (show 0 ≤ m by have := f2.2.2.1; omega)
  rw [Int.toNat_natCast] at hu1
  have hbm : b + m ≤ 64 := by unfold Fld at f2; omega
  have HQ := Lib.hid (Put_nat (putW x a n v) u b m hy f2 hu1 w)
  by_cases h3 : a < b + m ∧ b < a + n
  · have d1 : decide ((a : Int) < (b : Int) + (m : Int)) = true := by simp; omega
    have d2 : decide ((b : Int) < (a : Int) + (n : Int)) = true := by simp; omega
    clear h3 hf1 f1 f2 hv1 hu1 hg
    generalize putW (putW x a n v) b m u = z at *
    generalize putW x a n v = y at *
    go_enter Tryd.func4, Tryd.ntmps4
    go_wp2_with fail
    refine HP.out.mono ?_
    rintro e w' ⟨rfl, rfl⟩
    go_wp2_with fail
    refine HG.out.mono ?_
    rintro e w' ⟨rfl, rfl⟩
    go_wp2_with fail
    refine HQ.out.mono ?_
    rintro e w' ⟨rfl, rfl⟩
    go_wp2_with fail
    refine HA.out.mono ?_
    rintro e w' ⟨rfl, hb⟩
    have Hb := Lib.hid hb
    clear hb
    go_wp2
    go_ret
    exact ⟨rfl, Hb.out⟩
  · have hz : putW (putW x a n v) b m u < 18446744073709551616 := putW_lt hy hbm
    have hap : a + n ≤ b ∨ b + m ≤ a := by omega
    have hg1 := get_put_apart (putW x a n v) b m u a n (by omega)
    rw [hg] at hg1
    have hg2 := get_put (putW x a n v) b m u hu1
    have hcm := put_comm x a n v b m u hap
    have hd : putW x b m u < 18446744073709551616 := putW_lt hx hbm
    have HG1 := Lib.hid (Get_nat (putW (putW x a n v) b m u) a n hz f1 w)
    have HG2 := Lib.hid (Get_nat (putW (putW x a n v) b m u) b m hz f2 w)
    rw [hg1] at HG1
    rw [hg2] at HG2
    have HD := Lib.hid (Put_nat x u b m hx f2 hu1 w)
    have HE := Lib.hid (Put_nat (putW x b m u) v a n hd f1 hv1 w)
    rw [← hcm] at HE
    have hk : (b : Int) + (m : Int) ≤ (a : Int) ∨ ((a : Int) < (b : Int) + (m : Int) ∧ (a : Int) + (n : Int) ≤ (b : Int)) := by omega
    clear h3 hf1 f1 f2 hv1 hu1 hg hg1 hg2 hcm hap
    generalize putW (putW x a n v) b m u = z at *
    generalize putW x a n v = y at *
    generalize putW x b m u = d at *
    have e2 : ((u : Int) == (u : Int)) = true := by simp
    have e3 : ((z : Int) == (z : Int)) = true := by simp
    rcases hk with hk | ⟨hk1, hk2⟩
    · have d1 : decide ((a : Int) < (b : Int) + (m : Int)) = false := by simp; omega
      go_enter Tryd.func4, Tryd.ntmps4
      go_wp2_with fail
      refine HP.out.mono ?_
      rintro e w' ⟨rfl, rfl⟩
      go_wp2_with fail
      refine HG.out.mono ?_
      rintro e w' ⟨rfl, rfl⟩
      go_wp2_with fail
      refine HQ.out.mono ?_
      rintro e w' ⟨rfl, rfl⟩
      go_wp2_with fail
      refine HG1.out.mono ?_
      rintro e w' ⟨rfl, rfl⟩
      go_wp2_with fail
      refine HG2.out.mono ?_
      rintro e w' ⟨rfl, rfl⟩
      go_wp2_with fail
      refine HD.out.mono ?_
      rintro e w' ⟨rfl, rfl⟩
      go_wp2_with fail
      refine HE.out.mono ?_
      rintro e w' ⟨rfl, rfl⟩
      go_wp2_with fail
      refine HA.out.mono ?_
      rintro e w' ⟨rfl, hb⟩
      have Hb := Lib.hid hb
      clear hb
      go_wp2
      go_ret
      exact ⟨rfl, Hb.out⟩
    · have d1 : decide ((a : Int) < (b : Int) + (m : Int)) = true := by simp; omega
      have d2 : decide ((b : Int) < (a : Int) + (n : Int)) = false := by simp; omega
      go_enter Tryd.func4, Tryd.ntmps4
      go_wp2_with fail
      refine HP.out.mono ?_
      rintro e w' ⟨rfl, rfl⟩
      go_wp2_with fail
      refine HG.out.mono ?_
      rintro e w' ⟨rfl, rfl⟩
      go_wp2_with fail
      refine HQ.out.mono ?_
      rintro e w' ⟨rfl, rfl⟩
      go_wp2_with fail
      refine HG1.out.mono ?_
      rintro e w' ⟨rfl, rfl⟩
      go_wp2_with fail
      refine HG2.out.mono ?_
      rintro e w' ⟨rfl, rfl⟩
      go_wp2_with fail
      refine HD.out.mono ?_
      rintro e w' ⟨rfl, rfl⟩
      go_wp2_with fail
      refine HE.out.mono ?_
      rintro e w' ⟨rfl, rfl⟩
      go_wp2_with fail
      refine HA.out.mono ?_
      rintro e w' ⟨rfl, hb⟩
      have Hb := Lib.hid hb
      clear hb
      go_wp2
      go_ret
      exact ⟨rfl, Hb.out⟩
end Go.Proofs.YtlencbjaggaabaaDoor
