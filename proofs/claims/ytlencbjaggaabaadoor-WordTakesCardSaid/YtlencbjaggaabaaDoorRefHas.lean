/- parcloseref01.has, Has: whether a row has a bit, and which. -/
import Derived.Test.YtlencbjaggaabaaDoorRefPut
import Derived.Test.YtlencbjaggaabaaDoorTypes
namespace Go.Proofs.YtlencbjaggaabaaDoor
open Go.RowKit
set_option linter.unusedVariables false

def Idx (l : List Nat) (i : Int) : Prop := 0 ≤ i ∧ i < 64 * l.length

set_option maxHeartbeats 1000000 in
theorem refhas_yes (v : Value) (l : List Nat) (i : Int) (w : World) (h : Rd w v l.length (u64s l)) (hi : Idx l i) (hl : l.length ≤ 65536) :
    Calls Tryd.prog 32 #[v, .int .i64 i] w fun e w' => e = .returned (.bool true) ∧ w = w' := by
  obtain ⟨A, c, rfl, h1, h2, h3⟩ := h
  obtain ⟨i1, i2⟩ := hi
  clear h3
  have hd : decide (i / 64 < (l.length : Int)) = true := by simp; omega
  go_enter Tryd.func32, Tryd.ntmps32
  go_wp2
  go_ret
  exact ⟨ret_bool (by first | rfl | exact hd), rfl⟩
set_option maxHeartbeats 1000000 in
theorem refhas_no (v : Value) (l : List Nat) (i : Int) (w : World) (h : Rd w v l.length (u64s l)) (hi : ¬ Idx l i) (hi1 : -9223372036854775808 ≤ i) (hi2 : i ≤ 9223372036854775807) (hl : l.length ≤ 65536) :
    Calls Tryd.prog 32 #[v, .int .i64 i] w fun e w' => e = .returned (.bool false) ∧ w = w' := by
  obtain ⟨A, c, rfl, h1, h2, h3⟩ := h
  clear h3
  by_cases h0 : 0 ≤ i
  · have hd : decide (i / 64 < (l.length : Int)) = false := by unfold Idx at hi; simp; omega
    clear hi
    go_enter Tryd.func32, Tryd.ntmps32
    go_wp2
    go_ret
    exact ⟨ret_bool (by first | rfl | exact hd), rfl⟩
  · have h0' : i < 0 := by omega
    clear hi h0
    go_enter Tryd.func32, Tryd.ntmps32
    go_wp2
    go_ret
    exact ⟨ret_bool (by first | rfl | (simp; omega)), rfl⟩

theorem idx_nat {l : List Nat} {i : Int} (h : Idx l i) : i.toNat < 64 * l.length ∧ (i.toNat : Int) = i := by
  obtain ⟨h1, h2⟩ := h
  omega
theorem bitOf_at {l : List Nat} {k : Nat} (h : k / 64 < l.length) : bitOf l k = l[k / 64].testBit (k % 64) := by
  unfold bitOf
  rw [List.getD_eq_getElem?_getD, List.getElem?_eq_getElem h]
  rfl
theorem beq_bit (x r : Nat) : ((x : Int) / 2 ^ r % 2 == 1) = x.testBit r := by
  rw [Bool.eq_iff_iff, beq_iff_eq]
  exact bit_one

set_option maxHeartbeats 1000000 in
theorem refHas_yes (v : Value) (l : List Nat) (i : Int) (w : World) (h : Rd w v l.length (u64s l)) (hw : ∀ x ∈ l, x < 2 ^ 64) (hi : Idx l i) (hl : l.length ≤ 65536) :
    Calls Tryd.prog 22 #[v, .int .i64 i] w fun e w' => e = .returned (.tuple #[.bool (bitOf l i.toNat), .int .i64 0]) ∧ w = w' := by
  have hR := h
  obtain ⟨A, c, rfl, h1, h2, h3⟩ := h
  obtain ⟨k, rfl⟩ := Int.eq_ofNat_of_zero_le hi.1
  rw [Int.toNat_natCast]
  have hk : k < 64 * l.length := by have := hi.2; omega
  have hq : k / 64 < l.length := by omega
  obtain ⟨b, o, rfl, hc⟩ := hR.at_ (u64s_at hq)
  have hx : l[k / 64] < 18446744073709551616 := hw _ (List.getElem_mem hq)
  have HB := Lib.hid (bitOf_at hq)
  have HH := Lib.hid (fun W (hW : Rd W (.slice (some ⟨b, o, none⟩) l.length c) l.length (u64s l)) => refhas_yes _ l k W hW hi hl)
  have HR := Lib.hid hR
  generalize l[k / 64] = x at *
  have hq' : (k : Int) / 64 < (l.length : Int) := by omega
  clear h3 hR hw hi
  go_enter Tryd.func22, Tryd.ntmps22
  go_wp2_with fail
  refine (HH.out _ HR.out).mono ?_
  rintro e w' ⟨rfl, rfl⟩
  go_wp2_with fail
  refine (bit_any x _ hx (by omega) (by omega) _).mono ?_
  rintro e w' ⟨rfl, rfl⟩
  rw [show ((k : Int) % 64).toNat = k % 64 by omega]
  go_wp2
  go_ret2
  exact ⟨congrArg (fun z : Bool => Ending.returned (.tuple #[.bool z, .int .i64 0])) (by rw [HB.out]; exact beq_bit x _), rfl⟩
set_option maxHeartbeats 1000000 in
theorem refHas_no (v : Value) (l : List Nat) (i : Int) (w : World) (h : Rd w v l.length (u64s l)) (hi : ¬ Idx l i) (hi1 : -9223372036854775808 ≤ i) (hi2 : i ≤ 9223372036854775807) (hl : l.length ≤ 65536) :
    Calls Tryd.prog 22 #[v, .int .i64 i] w fun e w' => e = .returned (.tuple #[.bool false, .int .i64 2]) ∧ w = w' := by
  have HH := Lib.hid (refhas_no v l i w h hi hi1 hi2 hl)
  clear h hi
  go_enter Tryd.func22, Tryd.ntmps22
  go_wp2_with fail
  refine HH.out.mono ?_
  rintro e w' ⟨rfl, rfl⟩
  go_wp2
  go_ret2
  exact ⟨rfl, rfl⟩
end Go.Proofs.YtlencbjaggaabaaDoor
