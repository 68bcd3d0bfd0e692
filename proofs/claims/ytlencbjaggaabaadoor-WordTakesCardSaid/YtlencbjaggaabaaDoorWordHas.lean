/- word.has, Has: whether a row has a bit, and which. -/
import Derived.Test.YtlencbjaggaabaaDoorRefHas
namespace Go.Proofs.YtlencbjaggaabaaDoor
open Go.RowKit
set_option linter.unusedVariables false

set_option maxHeartbeats 1000000 in
theorem wordhas_yes (v : Value) (l : List Nat) (i : Int) (w : World) (h : Rd w v l.length (u64s l)) (hi : Idx l i) (hl : l.length ≤ 65536) :
    Calls Tryd.prog 31 #[v, .int .i64 i] w fun e w' => e = .returned (.bool true) ∧ w = w' := by
  obtain ⟨A, c, rfl, h1, h2, h3⟩ := h
  obtain ⟨i1, i2⟩ := hi
  clear h3
  have hd : decide (i / 64 < (l.length : Int)) = true := by simp; omega
  go_enter Tryd.func31, Tryd.ntmps31
  go_wp2
  go_ret
  exact ⟨ret_bool (by first | rfl | exact hd), rfl⟩
set_option maxHeartbeats 1000000 in
theorem wordhas_no (v : Value) (l : List Nat) (i : Int) (w : World) (h : Rd w v l.length (u64s l)) (hi : ¬ Idx l i) (hi1 : -9223372036854775808 ≤ i) (hi2 : i ≤ 9223372036854775807) (hl : l.length ≤ 65536) :
    Calls Tryd.prog 31 #[v, .int .i64 i] w fun e w' => e = .returned (.bool false) ∧ w = w' := by
  obtain ⟨A, c, rfl, h1, h2, h3⟩ := h
  clear h3
  by_cases h0 : 0 ≤ i
  · have hd : decide (i / 64 < (l.length : Int)) = false := by unfold Idx at hi; simp; omega
    clear hi
    go_enter Tryd.func31, Tryd.ntmps31
    go_wp2
    go_ret
    exact ⟨ret_bool (by first | rfl | exact hd), rfl⟩
  · have h0' : i < 0 := by omega
    clear hi h0
    go_enter Tryd.func31, Tryd.ntmps31
    go_wp2
    go_ret
    exact ⟨ret_bool (by first | rfl | (simp; omega)), rfl⟩

/-- 'x >> r & 1 == 1' -/
theorem and_one (x r : Nat) (hx : x < 18446744073709551616) : (bits BinOp.and IntKind.u64 ((x : Int) / 2 ^ r) 1 == 1) = x.testBit r := by
  have h := u64_and_nat (x / 2 ^ r) 1 (Nat.lt_of_le_of_lt (Nat.div_le_self _ _) hx) (by decide)
  rw [Nat.and_one_is_mod] at h
  rw [div_pow]
  have h' : bits BinOp.and IntKind.u64 ((x / 2 ^ r : Nat) : Int) 1 = ((x / 2 ^ r % 2 : Nat) : Int) := h
  rw [h', testBit_div, Bool.eq_iff_iff, beq_iff_eq, decide_eq_true_eq]
  omega

set_option maxHeartbeats 1000000 in
theorem wordHas_yes (v : Value) (l : List Nat) (i : Int) (w : World) (h : Rd w v l.length (u64s l)) (hw : ∀ x ∈ l, x < 2 ^ 64) (hi : Idx l i) (hl : l.length ≤ 65536) :
    Calls Tryd.prog 21 #[v, .int .i64 i] w fun e w' => e = .returned (.tuple #[.bool (bitOf l i.toNat), .int .i64 0]) ∧ w = w' := by
  have hR := h
  obtain ⟨A, c, rfl, h1, h2, h3⟩ := h
  obtain ⟨k, rfl⟩ := Int.eq_ofNat_of_zero_le hi.1
  rw [Int.toNat_natCast]
  have hk : k < 64 * l.length := by have := hi.2; omega
  have hq : k / 64 < l.length := by omega
  obtain ⟨b, o, rfl, hc⟩ := hR.at_ (u64s_at hq)
  have hx : l[k / 64] < 18446744073709551616 := hw _ (List.getElem_mem hq)
  have HB := Lib.hid (bitOf_at hq)
  have HH := Lib.hid (fun W (hW : Rd W (.slice (some ⟨b, o, none⟩) l.length c) l.length (u64s l)) => wordhas_yes _ l k W hW hi hl)
  have HR := Lib.hid hR
  generalize l[k / 64] = x at *
  have hq' : (k : Int) / 64 < (l.length : Int) := by omega
  clear h3 hR hw hi
  go_enter Tryd.func21, Tryd.ntmps21
  go_wp2_with fail
  refine (HH.out _ HR.out).mono ?_
  rintro e w' ⟨rfl, rfl⟩
  go_wp2
  go_ret2
  exact ⟨congrArg (fun z : Bool => Ending.returned (.tuple #[.bool z, .int .i64 0])) (by rw [HB.out]; exact and_one x _ hx), rfl⟩
set_option maxHeartbeats 1000000 in
theorem wordHas_no (v : Value) (l : List Nat) (i : Int) (w : World) (h : Rd w v l.length (u64s l)) (hi : ¬ Idx l i) (hi1 : -9223372036854775808 ≤ i) (hi2 : i ≤ 9223372036854775807) (hl : l.length ≤ 65536) :
    Calls Tryd.prog 21 #[v, .int .i64 i] w fun e w' => e = .returned (.tuple #[.bool false, .int .i64 2]) ∧ w = w' := by
  have HH := Lib.hid (wordhas_no v l i w h hi hi1 hi2 hl)
  clear h hi
  go_enter Tryd.func21, Tryd.ntmps21
  go_wp2_with fail
  refine HH.out.mono ?_
  rintro e w' ⟨rfl, rfl⟩
  go_wp2
  go_ret2
  exact ⟨rfl, rfl⟩
end Go.Proofs.YtlencbjaggaabaaDoor
