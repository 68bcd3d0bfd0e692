/- word.Count: how many of a row's first bits are 1. -/
import Derived.Test.YtlencbjaggaabaaDoorWordOnes
namespace Go.Proofs.YtlencbjaggaabaaDoor
open Go.RowKit
set_option linter.unusedVariables false

theorem ones_mod (x b n : Nat) : ones (x % 2 ^ b) n = ones x (min b n) := by
  induction n with
  | zero => rw [Nat.min_zero]; rfl
  | succ n ih =>
    rw [ones_succ, ih, Nat.testBit_mod_two_pow]
    by_cases h : n < b
    · rw [show min b (n + 1) = n + 1 by omega, show min b n = n by omega, ones_succ]
      simp [h]
    · rw [show min b (n + 1) = b by omega, show min b n = b by omega]
      simp [h]
theorem cnt_ones {l : List Nat} {k : Nat} (hk : k < l.length) (b : Nat) (hb : b ≤ 64) : cnt l (64 * k + b) = cnt l (64 * k) + ones l[k] b := by
  rw [cnt_add]
  congr 1
  unfold ones
  congr 1
  refine List.filter_congr fun i hi => ?_
  have := List.mem_range.1 hi
  exact bitOf_word hk i (by omega)

set_option maxHeartbeats 2000000 in
theorem Count_any (v : Value) (l : List Nat) (n : Int) (w : World) (h : Rd w v l.length (u64s l)) (hw : ∀ x ∈ l, x < 2 ^ 64) (hl : l.length ≤ 65536) (hn1 : -9223372036854775808 ≤ n) (hn2 : n ≤ 9223372036854775807) :
    Calls Tryd.prog 18 #[v, .int .i64 n] w fun e w' => e = .returned (.int .i64 (cnt l (upN l n) : Nat)) ∧ w = w' := by
  have hR := h
  obtain ⟨A, c, rfl, h1, h2, h3⟩ := h
  have HR := Lib.hid hR
  have HW := Lib.hid hw
  clear h3 hR hw
  go_enter Tryd.func18, Tryd.ntmps18
  go_wp2
  go_loop [5, 6, 7, 8, 11] (fun s _ _ _ i => ∃ k : Nat, k ≤ l.length ∧ (64 * (k : Int) < n + 64 ∨ k = 0) ∧ i = .int .i64 k ∧ s = .int .i64 (cnt l (upN l (min n (64 * k))) : Nat)) (fun _ _ _ _ i => l.length - (intOf i).toNat)
  case atStart => exact ⟨0, by omega, by omega, rfl, by rw [show upN l (min n (64 * ((0 : Nat) : Int))) = 0 by unfold upN; omega]; rfl⟩
  case round =>
    obtain ⟨k, hk, hkn, rfl, rfl⟩ := hrel
    by_cases hlt : k < l.length
    · obtain ⟨b, o, rfl, hc⟩ := HR.out.at_ (u64s_at hlt)
      have hx : l[k] < 18446744073709551616 := HW.out _ (List.getElem_mem hlt)
      by_cases hn0 : n - 64 * (k : Int) ≤ 0
      · have hU := Lib.hid (show upN l (min n (64 * (k : Int))) = upN l n by unfold upN; omega)
        generalize l[k] = x at *
        go_wp2
        go_ret
        exact ⟨ret_int (by rw [hU.out]), rfl⟩
      · have hcl := cnt_le l (64 * k)
        have hU := show upN l (min n (64 * (k : Int))) = 64 * k by unfold upN; omega
        rw [hU]
        by_cases hlt64 : n - 64 * (k : Int) < 64
        · obtain ⟨d, hd⟩ : ∃ d : Nat, n - 64 * (k : Int) = (d : Int) := ⟨(n - 64 * (k : Int)).toNat, by omega⟩
          have hU2 := show upN l (min n (64 * ((k + 1 : Nat) : Int))) = 64 * k + d by unfold upN; omega
          have hco := cnt_ones hlt d (by omega)
          have hcl2 := cnt_le l (64 * k + d)
          have HE := Lib.hid (show ((cnt l (upN l (min n (64 * ((k + 1 : Nat) : Int)))) : Nat) : Int) = (cnt l (64 * k) : Nat) + (ones l[k] d : Nat) by rw [hU2, hco]; push_cast; rfl)
          have hon := ones_mod l[k] d 64
          rw [show min d 64 = d by omega] at hon
          have hmod := Nat.and_two_pow_sub_one_eq_mod l[k] d
          have h2d : 2 ^ d < 18446744073709551616 := Nat.lt_of_le_of_lt (Nat.pow_le_pow_right (show 0 < 2 by decide) (show d ≤ 63 by omega)) (by decide)
          have h2p := Nat.two_pow_pos d
          have hA := u64_and_nat l[k] (2 ^ d - 1) hx (by omega)
          rw [hmod] at hA
          have hW : bits BinOp.and IntKind.u64 ((l[k] : Nat) : Int) (IntKind.u64.wrap (IntKind.u64.wrap (2 ^ d) - 1)) = ((l[k] % 2 ^ d : Nat) : Int) := by
            rw [← hA, show ((2 : Int) ^ d) = ((2 ^ d : Nat) : Int) by simp]
            congr 1
            rw [IntKind.wrap_u64, IntKind.wrap_u64]
            omega
          have hm := Nat.mod_lt l[k] h2p
          have hol : ones l[k] d ≤ d := by
            unfold ones
            have := List.length_filter_le (l[k]).testBit (List.range d)
            simpa using this
          generalize l[k] = x at *
          generalize x % 2 ^ d = y at *
          have HH := Lib.hid (OnesCount64_any y (by omega))
          rw [hon] at HH
          generalize ones x d = z at *
          clear hU hU2 hco hcl2 hon hmod hA
          go_wp2_with fail
          refine (HH.out _).mono ?_
          rintro e w' ⟨rfl, rfl⟩
          go_wp2
          go_round
          case rel => exact ⟨k + 1, by omega, by omega, by go_num, by rw [HE.out]⟩
          case measure => simp [intOf]; omega
        · have hU2 := show upN l (min n (64 * ((k + 1 : Nat) : Int))) = 64 * k + 64 by unfold upN; omega
          have hco := cnt_ones hlt 64 (by omega)
          have HE := Lib.hid (show ((cnt l (upN l (min n (64 * ((k + 1 : Nat) : Int)))) : Nat) : Int) = (cnt l (64 * k) : Nat) + (ones l[k] 64 : Nat) by rw [hU2, hco]; push_cast; rfl)
          have hol : ones l[k] 64 ≤ 64 := by
            unfold ones
            have := List.length_filter_le (l[k]).testBit (List.range 64)
            simpa using this
          generalize l[k] = x at *
          have HH := Lib.hid (OnesCount64_any x hx)
          generalize ones x 64 = z at *
          clear hU hU2 hco
          go_wp2_with fail
          refine (HH.out _).mono ?_
          rintro e w' ⟨rfl, rfl⟩
          go_wp2
          go_round
          case rel => exact ⟨k + 1, by omega, by omega, by go_num, by rw [HE.out]⟩
          case measure => simp [intOf]; omega
    · obtain rfl : k = l.length := by omega
      have hU := Lib.hid (show upN l (min n (64 * (l.length : Int))) = upN l n by unfold upN; omega)
      go_wp2
      go_ret
      exact ⟨ret_int (by rw [hU.out]), rfl⟩
end Go.Proofs.YtlencbjaggaabaaDoor
