/- parcloseref01.Lowest, Count. -/
import Derived.Test.YtlencbjaggaabaaDoorWordLow
namespace Go.Proofs.YtlencbjaggaabaaDoor
open Go.RowKit
set_option linter.unusedVariables false

/-- how many of the first n bits are 1 -/
def cnt (l : List Nat) (n : Nat) : Nat := ((List.range n).filter (bitOf l)).length
theorem cnt_zero (l : List Nat) : cnt l 0 = 0 := rfl
theorem cnt_succ (l : List Nat) (n : Nat) : cnt l (n + 1) = cnt l n + if bitOf l n = true then 1 else 0 := by
  unfold cnt
  rw [List.range_succ, List.filter_append, List.length_append]
  congr 1
  by_cases h : bitOf l n = true <;> simp [h]
theorem cnt_le (l : List Nat) (n : Nat) : cnt l n ≤ n := by
  unfold cnt
  have := List.length_filter_le (bitOf l) (List.range n)
  simpa using this
theorem cnt_add (l : List Nat) (a b : Nat) : cnt l (a + b) = cnt l a + ((List.range b).filter fun i => bitOf l (a + i)).length := by
  induction b with
  | zero => rfl
  | succ b ih =>
    rw [← Nat.add_assoc, cnt_succ, ih, List.range_succ, List.filter_append, List.length_append, Nat.add_assoc]
    congr 2
    by_cases h : bitOf l (a + b) = true <;> simp [h]
theorem cnt_word (l : List Nat) (k b : Nat) (hb : b < 64) : (l.getD k 0) / 2 ^ b % 2 = if bitOf l (64 * k + b) = true then 1 else 0 := by
  have e : bitOf l (64 * k + b) = (l.getD k 0).testBit b := by
    unfold bitOf
    rw [show (64 * k + b) / 64 = k by omega, show (64 * k + b) % 64 = b by omega]
  rw [e, testBit_div]
  generalize (l.getD k 0) / 2 ^ b = y
  by_cases h : y % 2 = 1
  · rw [if_pos (by simp [h]), h]
  · rw [if_neg (by simp [h])]; omega
/-- how far a count goes -/
def upN (l : List Nat) (n : Int) : Nat := min n.toNat (64 * l.length)

set_option maxHeartbeats 2000000 in
theorem refLowest_any (v : Value) (l : List Nat) (n : Int) (w : World) (h : Rd w v l.length (u64s l)) (hw : ∀ x ∈ l, x < 2 ^ 64) (hl : l.length ≤ 65536) (hn1 : -9223372036854775808 ≤ n) (hn2 : n ≤ 9223372036854775807) (m : Nat) (hm : Low0 l m) :
    Calls Tryd.prog 24 #[v, .int .i64 n] w (OutLow w (lowOut m l.length n)) := by
  have hR := h
  obtain ⟨A, c, rfl, h1, h2, h3⟩ := h
  have HR := Lib.hid hR
  have HW := Lib.hid hw
  have HM := Lib.hid hm
  clear h3 hR hw hm
  go_enter Tryd.func24, Tryd.ntmps24
  go_wp2
  go_loop [6] (fun i => ∃ k : Nat, k ≤ 64 * l.length ∧ i = .int .i64 k ∧ ∀ j, j < k → bitOf l j = true) (fun i => 64 * l.length - (intOf i).toNat)
  case atStart => exact ⟨0, by omega, rfl, fun j hj => by omega⟩
  case round =>
    obtain ⟨k, hk, rfl, hf⟩ := hrel
    have HF := Lib.hid hf
    clear hf
    by_cases hkn : (k : Int) < n
    · by_cases hlt : k < 64 * l.length
      · have hq : k / 64 < l.length := by omega
        obtain ⟨b, o, rfl, hc⟩ := HR.out.at_ (u64s_at hq)
        have hx : l[k / 64] < 18446744073709551616 := HW.out _ (List.getElem_mem hq)
        have HB := Lib.hid (bitOf_at hq)
        generalize l[k / 64] = x at *
        have hq' : (k : Int) / 64 < (l.length : Int) := by omega
        go_wp2_with fail
        refine (refhas_yes _ l k _ HR.out (by unfold Idx; omega) hl).mono ?_
        rintro e w' ⟨rfl, rfl⟩
        go_wp2_with fail
        refine (bit_any x _ hx (by omega) (by omega) _).mono ?_
        rintro e w' ⟨rfl, rfl⟩
        rw [show ((k : Int) % 64).toNat = k % 64 by omega]
        by_cases hb : x / 2 ^ (k % 64) % 2 = 1
        · have hy : bitOf l k = true := by rw [HB.out, testBit_div]; exact decide_eq_true hb
          have HY := Lib.hid hy
          rw [hb]
          clear hb hy
          go_wp2
          go_round
          case rel =>
            refine ⟨k + 1, by omega, by go_num, fun j hj => ?_⟩
            rcases Nat.lt_or_ge j k with h | h
            · exact HF.out j h
            · obtain rfl : j = k := by omega
              exact HY.out
          case measure => simp [intOf]; omega
        · have hz : x / 2 ^ (k % 64) % 2 = 0 := by omega
          have hy : bitOf l k = false := by rw [HB.out, testBit_div]; exact decide_eq_false hb
          have hM := low0_one HM.out ⟨hy, HF.out⟩
          subst hM
          have HO := Lib.hid (lowOut_yes (m := m) (len := l.length) (n := n) ⟨hkn, hlt⟩)
          rw [hz]
          clear hb hz hy
          go_wp2
          go_ret2
          unfold OutLow
          rw [HO.out]
          exact ⟨rfl, rfl⟩
      · have hM := low0_le HM.out
        have HO := Lib.hid (lowOut_no (m := m) (len := l.length) (n := n) (fun h => by
          have := HM.out.1
          rw [HF.out m (by omega)] at this
          cases this))
        clear hM
        go_wp2_with fail
        refine (refhas_no _ l k _ HR.out (by unfold Idx; omega) (by omega) (by omega) hl).mono ?_
        rintro e w' ⟨rfl, rfl⟩
        go_wp2
        go_ret2
        unfold OutLow
        rw [HO.out]
        exact ⟨rfl, rfl⟩
    · have HO := Lib.hid (lowOut_no (m := m) (len := l.length) (n := n) (fun h => by
          have := HM.out.1
          rw [HF.out m (by omega)] at this
          cases this))
      go_wp2
      go_ret2
      unfold OutLow
      rw [HO.out]
      exact ⟨rfl, rfl⟩

set_option maxHeartbeats 2000000 in
theorem refCount_any (v : Value) (l : List Nat) (n : Int) (w : World) (h : Rd w v l.length (u64s l)) (hw : ∀ x ∈ l, x < 2 ^ 64) (hl : l.length ≤ 65536) (hn1 : -9223372036854775808 ≤ n) (hn2 : n ≤ 9223372036854775807) :
    Calls Tryd.prog 25 #[v, .int .i64 n] w fun e w' => e = .returned (.int .i64 (cnt l (upN l n) : Nat)) ∧ w = w' := by
  have hR := h
  obtain ⟨A, c, rfl, h1, h2, h3⟩ := h
  have HR := Lib.hid hR
  have HW := Lib.hid hw
  clear h3 hR hw
  go_enter Tryd.func25, Tryd.ntmps25
  go_wp2
  go_loop [5, 6] (fun s i => ∃ k : Nat, k ≤ 64 * l.length ∧ ((k : Int) ≤ n ∨ k = 0) ∧ i = .int .i64 k ∧ s = .int .i64 (cnt l k : Nat)) (fun _ i => 64 * l.length - (intOf i).toNat)
  case atStart => exact ⟨0, by omega, by omega, rfl, rfl⟩
  case round =>
    obtain ⟨k, hk, hkn0, rfl, rfl⟩ := hrel
    have hcl := cnt_le l k
    by_cases hkn : (k : Int) < n
    · by_cases hlt : k < 64 * l.length
      · have hq : k / 64 < l.length := by omega
        obtain ⟨b, o, rfl, hc⟩ := HR.out.at_ (u64s_at hq)
        have hx : l[k / 64] < 18446744073709551616 := HW.out _ (List.getElem_mem hq)
        have hg : l.getD (k / 64) 0 = l[k / 64] := by simp [List.getD, hq]
        have hcw := cnt_word l (k / 64) (k % 64) (by omega)
        rw [hg, show 64 * (k / 64) + k % 64 = k by omega] at hcw
        have HS := Lib.hid (cnt_succ l k)
        have HC := Lib.hid hcw
        generalize l[k / 64] = x at *
        clear hg hcw
        have hq' : (k : Int) / 64 < (l.length : Int) := by omega
        have hb2 : x / 2 ^ (k % 64) % 2 < 2 := Nat.mod_lt _ (by decide)
        go_wp2_with fail
        refine (refhas_yes _ l k _ HR.out (by unfold Idx; omega) hl).mono ?_
        rintro e w' ⟨rfl, rfl⟩
        go_wp2_with fail
        refine (bit_any x _ hx (by omega) (by omega) _).mono ?_
        rintro e w' ⟨rfl, rfl⟩
        rw [show ((k : Int) % 64).toNat = k % 64 by omega]
        generalize x / 2 ^ (k % 64) % 2 = y at *
        have hN : ((cnt l (k + 1) : Nat) : Int) = (cnt l k : Nat) + (y : Nat) := by
          rw [HS.out, HC.out]; push_cast; rfl
        have HN := Lib.hid hN
        clear hN
        go_wp2
        go_round
        case rel => exact ⟨k + 1, by omega, by omega, by go_num, by rw [HN.out]⟩
        case measure => simp [intOf]; omega
      · have hU := Lib.hid (show upN l n = k by unfold upN; omega)
        go_wp2_with fail
        refine (refhas_no _ l k _ HR.out (by unfold Idx; omega) (by omega) (by omega) hl).mono ?_
        rintro e w' ⟨rfl, rfl⟩
        go_wp2
        go_ret
        exact ⟨ret_int (by rw [hU.out]), rfl⟩
    · have hU := Lib.hid (show upN l n = k by unfold upN; omega)
      go_wp2
      go_ret
      exact ⟨ret_int (by rw [hU.out]), rfl⟩
end Go.Proofs.YtlencbjaggaabaaDoor
