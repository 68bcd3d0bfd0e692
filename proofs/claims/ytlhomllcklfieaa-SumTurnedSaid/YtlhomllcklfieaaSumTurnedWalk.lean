/- The walk of the law SumTurned. -/
import Derived.Test.YtlhomllcklfieaaSumAlive
import Derived.Deep.AppendLies
namespace Go.Proofs.Ytlhomllcklfieaa
open Go.RowKit
set_option linter.unusedVariables false

theorem u64s_setN (l : List Nat) (k x : Nat) : (u64s l).set k (.int .u64 (x : Nat)) = u64s (l.set k x) := by simp [u64s, List.map_set]
/-- whether a row is opened, told alone -/
theorem Open_tells (v : Value) (l : List Nat) (n : Nat) (hn : l.length = n) (b : Bool) (hb : opens l = b) (w : World) (h : Rd w v n (u64s l)) (hw : Wd l) (hl : n ≤ 65536) :
    Calls Try.prog 15 #[v] w fun r w' => ∃ u, r = .returned (.tuple #[u, .bool b]) ∧ Below w.heap.size w w' := by
  subst hn
  refine (Open_any v l w h hw hl).mono fun e w' hh => ?_
  cases b with
  | true =>
    obtain ⟨A, c, h1, _, h3⟩ := HandsOpen.yes hh hb
    exact ⟨_, h1, h3⟩
  | false =>
    obtain ⟨h1, h3⟩ := HandsOpen.no hh (by rw [hb]; decide)
    exact ⟨_, h1, h3⟩

theorem xor_one (z r : Nat) (hz : z < 18446744073709551616) (hr : r < 64) : bits BinOp.xor IntKind.u64 (z : Int) (IntKind.u64.wrap (2 ^ r)) = ((z ^^^ 2 ^ r : Nat) : Int) := by
  have h2 : 2 ^ r < 18446744073709551616 := Nat.pow_lt_pow_right (a := 2) (n := 64) (by decide) hr
  have e : IntKind.u64.wrap (2 ^ r) = ((2 ^ r : Nat) : Int) := by
    rw [IntKind.wrap_u64, show ((2 : Int) ^ r) = ((2 ^ r : Nat) : Int) by simp]
    generalize 2 ^ r = q at *
    omega
  rw [e]
  exact u64_xor_nat z (2 ^ r) hz h2

set_option maxHeartbeats 4000000 in
theorem sumTurned_walk (w : World) (v : Value) (l : List Nat) (hl : Wd l) (h : Rd w v l.length (u64s l)) (at_ : Nat) (hat : at_ < 65536) (turns : Nat) (ht : turns < 4294967296) :
    Calls Try.prog 5 #[v, .int .u16 at_, .int .u32 turns] w fun e w' => e = .returned (.bool true) ∧ Below w.heap.size w w' := by
  have hR := h
  obtain ⟨A, cp, rfl, h1, h2, h3⟩ := h
  have HR := Lib.hid hR
  have HW := Lib.hid hl
  clear h3 hR hl
  unfold maxLen at h2
  by_cases hb : 100 < l.length
  · have hb' : (100 : Int) < (l.length : Int) := by omega
    go_enter Try.func5, Try.ntmps5
    go_wp2_with (go_at_call 8; refine (alive_any _).mono ?_; rintro e w1 ⟨rfl, hb1⟩)
    go_ret
    exact ⟨rfl, hb1⟩
  have hlb : l.length ≤ 100 := by omega
  clear hb
  obtain ⟨K, hKd⟩ : ∃ K, K = at_ % (64 * (l.length + 1) - 31) := ⟨_, rfl⟩
  have hK : ((at_ : Int) % (64 * ((l.length : Int) + 1) - 31)) = (K : Int) := by
    rw [hKd, Int.natCast_emod, show ((64 * (l.length + 1) - 31 : Nat) : Int) = 64 * ((l.length : Int) + 1) - 31 by omega]
  have hKlt : K < 64 * (l.length + 1) - 31 := by rw [hKd]; exact Nat.mod_lt _ (by omega)
  clear hKd
  go_enter Try.func5, Try.ntmps5
  go_wp2_with (at_builtin; refine copy64 rfl (.const (.slice none 0 0)) (.tmp 19) rfl rfl _ l _ rfl rfl HR.out (by omega) ?_; intro A1 c1 w1 hown1 hw1; have HR1 := Lib.hid (Rd.of_own hown1); clear hown1)
  refine (Seal_any _ l _ HR1.out HW.out (by omega)).mono ?_
  rintro e w2 ⟨A2, c2, rfl, hown2, hb2⟩
  have hw2 := below_then hw1 hb2
  have HX2 := Lib.hid (Rd.of_own hown2)
  clear hown2
  have hne : (((l.length + 1 : Nat) : Int) != (l.length : Int) + 1) = false := by simp
  go_wp2_with (at_builtin; refine copy64 rfl (.const (.slice none 0 0)) (.tmp 29) rfl rfl _ (sealed l) (l.length + 1) (sealed_len l) rfl HX2.out (by omega) ?_; intro A3 c3 w3 hown3 hb3; have HX3 := Lib.hid (Rd.of_own hown3); have hw3 := below_then hw2 hb3; have HX2' := Lib.hid (HX2.out.below hb3); clear hown3)
  refine (Open_yes _ l l.length rfl _ HX3.out HW.out (by omega)).mono ?_
  rintro e w4 ⟨A4, c4, rfl, hown4, hb4⟩
  have hw4 := below_then hw3 hb4
  have HB4 := Lib.hid (Rd.of_own hown4)
  have HX4 := Lib.hid (HX2'.out.below hb4)
  clear hown4
  go_wp2_with fail
  refine (same_any _ _ l l _ HB4.out (HR.out.below hw4)).mono ?_
  rintro e w5 ⟨rfl, n5, rfl⟩
  rw [decide_eq_true (rfl : l = l)]
  have hw5 := below_drewN hw4 n5
  have HX5 := Lib.hid (HX4.out.drewN n5)
  go_wp2_with (at_builtin; refine copy64 rfl (.const (.slice none 0 0)) (.tmp 42) rfl rfl _ (sealed l) (l.length + 1) (sealed_len l) rfl HX5.out (by omega) ?_; intro A6 c6 w6 hown6 hb6)
  obtain ⟨g6, cap6, hv6, hg6, hlt6⟩ := hown6.form (by omega)
  injection hv6 with hA6 _ hc6
  subst hA6
  have hwk : Below w.heap.size w w6 := below_then hw5 hb6
  have hg6' : w.heap.size ≤ g6 := Nat.le_trans hw5.size hg6
  clear hc6 hg6 HX5 HX4 HX2' HX2 HX3 HB4
  go_loopw [12] (fun i wr => ∃ j : Nat, j ≤ 32 ∧ i = .int .i64 j ∧ wr.ownsRow w.heap.size 36 1 (.slice (some ⟨g6, 0, none⟩) (l.length + 1) c6) (l.length + 1) (u64s (turnsTo (sealed l) K turns j)) ∧ Below w.heap.size w wr) (fun i _ => 32 - (intOf i).toNat)
  case atStart => exact ⟨0, Nat.zero_le _, rfl, own_mono hown6 hw5.size, hwk⟩
  case round =>
    obtain ⟨j, hj, rfl, hown, hbel⟩ := hrel
    clear hown6 hwk
    have hlen : (turnsTo (sealed l) K turns j).length = l.length + 1 := by rw [turnsTo_length, sealed_len]
    have hwd := turnsTo_wd (sealed_wd HW.out) K turns j
    by_cases hlt : j < 32
    · have hsucc : turnsTo (sealed l) K turns (j + 1) = if turns / 2 ^ j % 2 = 1 then turn (turnsTo (sealed l) K turns j) (K + j) else turnsTo (sealed l) K turns j := rfl
      generalize turnsTo (sealed l) K turns j = y at *
      have Hsucc := Lib.hid hsucc
      have hq : (K + j) / 64 < y.length := by rw [hlen]; omega
      have hz := hown.cellAt ((K + j) / 64) (by omega)
      rw [u64s_at hq] at hz
      have hyd : y.getD ((K + j) / 64) 0 = y[(K + j) / 64] := by simp [List.getD, hq]
      have hyq : y[(K + j) / 64] < 18446744073709551616 := hwd _ (List.getElem_mem hq)
      generalize y[(K + j) / 64] = z at *
      have Hyd := Lib.hid hyd
      have hf := hown.frozenAt ((K + j) / 64)
      have hqi : ((K : Int) + (j : Int)) / 64 < (l.length : Int) + 1 := by omega
      have Hown := Lib.hid hown
      have Hbel := Lib.hid hbel
      have Hlen := Lib.hid hlen
      have Hwd := Lib.hid hwd
      clear hsucc hyd hown hbel hlen hwd hq
      by_cases hbit : turns / 2 ^ j % 2 = 1
      · have Hbit := Lib.hid hbit
        have hbb : (((turns : Int) / 2 ^ j).tmod 2 == 1) = true := by
          rw [div_pow, beq_iff_eq]
          show (((turns / 2 ^ j % 2 : Nat) : Int)) = 1
          omega
        clear hbit
        go_wp2_with fail
        go_roundw
        case rel =>
          refine ⟨j + 1, by omega, by go_num, ?_, ?_⟩
          · rw [xor_one z _ hyq (Nat.mod_lt _ (by decide))]
            have h7 := (Hown.out.stored ((K + j) / 64) (.int .u64 ((z ^^^ 2 ^ ((K + j) % 64) : Nat) : Int))).1
            rw [u64s_setN] at h7
            rw [Hsucc.out, if_pos Hbit.out]
            unfold turn
            rw [Hyd.out]
            exact h7
          · exact Hbel.out.setCell hg6' _
        case measure => simp [intOf]; omega
      · have Hbit := Lib.hid hbit
        have hbb : (((turns : Int) / 2 ^ j).tmod 2 == 1) = false := by
          rw [div_pow, beq_eq_false_iff_ne]
          show ¬ (((turns / 2 ^ j % 2 : Nat) : Int)) = 1
          omega
        clear hbit
        go_wp2_with fail
        go_roundw
        case rel =>
          refine ⟨j + 1, by omega, by go_num, ?_, Hbel.out⟩
          rw [Hsucc.out, if_neg Hbit.out]
          exact Hown.out
        case measure => simp [intOf]; omega
    · obtain rfl : j = 32 := by omega
      have hop := turned_opens l HW.out K turns ht (by omega)
      generalize turnsTo (sealed l) K turns 32 = y at *
      have HO := Lib.hid hop
      have HRy := Lib.hid (Rd.of_own hown)
      have Hwd := Lib.hid hwd
      have Hlen := Lib.hid hlen
      clear hop hown hwd hlen
      by_cases h0 : turns = 0
      · have hz0 : ((turns : Int) == 0) = true := by simp; omega
        have hd0 : decide (turns = 0) = true := by simpa using h0
        rw [hd0] at HO
        clear h0 hd0
        go_wp2_with fail
        refine (Open_tells _ y (l.length + 1) Hlen.out true HO.out _ HRy.out Hwd.out (by omega)).mono ?_
        rintro e w8 ⟨u8, rfl, hb8⟩
        have hw8 := below_then hbel hb8
        go_wp2_with (go_at_call 8; refine (alive_any _).mono ?_; rintro e w9 ⟨rfl, hb9⟩)
        go_ret
        exact ⟨rfl, below_then hw8 hb9⟩
      · have hz0 : ((turns : Int) == 0) = false := by simp; omega
        have hd0 : decide (turns = 0) = false := by simpa using h0
        rw [hd0] at HO
        clear h0 hd0
        go_wp2_with fail
        refine (Open_tells _ y (l.length + 1) Hlen.out false HO.out _ HRy.out Hwd.out (by omega)).mono ?_
        rintro e w8 ⟨u8, rfl, hb8⟩
        have hw8 := below_then hbel hb8
        go_wp2_with (go_at_call 8; refine (alive_any _).mono ?_; rintro e w9 ⟨rfl, hb9⟩)
        go_ret
        exact ⟨rfl, below_then hw8 hb9⟩
end Go.Proofs.Ytlhomllcklfieaa
