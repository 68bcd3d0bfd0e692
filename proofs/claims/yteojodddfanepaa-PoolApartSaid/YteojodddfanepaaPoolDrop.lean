/- pool.Drop: what it returns. -/
import Derived.Test.YteojodddfanepaaPoolOwn
namespace Go.Proofs.Yteojodddfanepaa
open Go.RowKit
set_option linter.unusedVariables false

set_option maxHeartbeats 1000000 in
theorem drop_arg (v u : Value) (l : List Nat) (n : Int) (w : World) (h : Rd w v l.length (u64s l)) (hn : ¬ May l n) (hn1 : -9223372036854775808 ≤ n) (hn2 : n ≤ 9223372036854775807) (hl : l.length ≤ 65536) :
    Calls Try.prog 18 #[v, .int .i64 n, u] w fun e w' => e = .returned (.tuple #[.slice none 0 0, .int .i64 2]) ∧ w = w' := by
  have HM := Lib.hid (may_no v l n w h hn hn1 hn2 hl)
  clear h hn
  go_enter Try.func18, Try.ntmps18
  go_wp2_with fail
  refine HM.out.mono ?_
  rintro e w' ⟨rfl, rfl⟩
  go_wp2
  go_ret2
  exact ⟨rfl, rfl⟩

/-- 'x &^ (1 << r)' -/
theorem wrap_pow (r : Nat) (hr : r < 64) : IntKind.u64.wrap (2 ^ r) = ((2 ^ r : Nat) : Int) := by
  have h : 2 ^ r < 18446744073709551616 := Nat.pow_lt_pow_right (n := 64) (by decide) hr
  rw [show ((2 : Int) ^ r) = ((2 ^ r : Nat) : Int) by simp, IntKind.wrap_u64]
  exact Int.emod_eq_of_lt (Int.natCast_nonneg _) (Int.ofNat_lt.2 h)
theorem clear_bit (x r : Nat) (hx : x < 18446744073709551616) (hr : r < 64) : bits BinOp.andNot IntKind.u64 (x : Int) (IntKind.u64.wrap (2 ^ r)) = ((putW x r 1 0 : Nat) : Int) := by
  rw [wrap_pow r hr, u64_andNot_nat _ _ hx (Nat.pow_lt_pow_right (by decide) hr), andNot_bit hx hr]
theorem set_bit (x r : Nat) (hx : x < 18446744073709551616) (hr : r < 64) : bits BinOp.or IntKind.u64 (x : Int) (IntKind.u64.wrap (2 ^ r)) = ((putW x r 1 1 : Nat) : Int) := by
  rw [wrap_pow r hr, u64_or_nat _ _ hx (Nat.pow_lt_pow_right (by decide) hr), or_bit]

set_option maxHeartbeats 4000000 in
theorem drop_any (v u : Value) (l : List Nat) (n : Nat) (which : List Int) (w : World) (h : Rd w v l.length (u64s l)) (hw : ∀ x ∈ l, x < 2 ^ 64) (hu : Rd w u which.length (i64s which)) (hn : n ≤ 64 * l.length) (hl : l.length ≤ 65536) (hm : which.length ≤ 65536)
    (hb : ∀ x ∈ which, -9223372036854775808 ≤ x ∧ x ≤ 9223372036854775807) :
    Calls Try.prog 18 #[v, .int .i64 n, u] w (HandsDrop w l n which) := by
  have HR := Lib.hid h
  have HW := Lib.hid hw
  have HM := Lib.hid (may_yes v l n w h (by unfold May; omega) hl)
  obtain ⟨A, c, rfl, _, _, _⟩ := h
  obtain ⟨B, d, rfl, _, _, _⟩ := hu
  rename_i hu
  have HU : Rd w (.slice B which.length d) which.length (i64s which) := ⟨B, d, rfl, by assumption, by assumption, hu⟩
  have HB := Lib.hid hb
  have HU := Lib.hid HU
  clear hw hu hb
  go_enter Try.func18, Try.ntmps18
  go_wp2_with fail
  refine HM.out.mono ?_
  rintro e w' ⟨rfl, rfl⟩
  go_wp2
  go_loop [20] (fun i => ∃ j : Nat, j ≤ which.length ∧ i = .int .i64 j ∧ InR which n j) (fun i => which.length - (intOf i).toNat)
  case atStart => exact ⟨0, Nat.zero_le _, rfl, InR_zero _ _⟩
  case round =>
    obtain ⟨j, hj, rfl, hin⟩ := hrel
    by_cases hlt : j < which.length
    · obtain ⟨b, o, rfl, hcell⟩ := HU.out.at_ (i64s_at hlt)
      obtain ⟨hx1, hx2⟩ := HB.out _ (List.getElem_mem hlt)
      have hyes := InR_succ hin hlt
      have hno := not_InR (which := which) (n := n) hlt
      generalize which[j] = x at *
      have HI := Lib.hid hin
      have HY := Lib.hid hyes
      have HN := Lib.hid hno
      clear hin hyes hno
      by_cases h1 : x < 1
      · have hd : decide (x < 1) = true := by simpa using h1
        go_wp2
        go_ret2
        exact ⟨Below.refl _ _, .inl ⟨HN.out (by omega), rfl⟩⟩
      · have hd : decide (x < 1) = false := by simpa using h1
        by_cases h2 : x ≤ n
        · have hd2 : decide (x > (n : Int)) = false := by simpa using h2
          go_wp2
          go_round
          case rel => exact ⟨j + 1, by omega, by go_num, HY.out (by omega) h2⟩
          case measure => simp [intOf]; omega
        · have hd2 : decide (x > (n : Int)) = true := by simp; omega
          go_wp2
          go_ret2
          exact ⟨Below.refl _ _, .inl ⟨HN.out (by omega), rfl⟩⟩
    · obtain rfl : j = which.length := by omega
      have HI := Lib.hid hin
      clear hin hlt hj
      go_wp2_with fail
      refine (own_any _ l w HR.out hl).mono ?_
      rintro e w1 ⟨A1, c1, rfl, hown1, hb1⟩
      go_wp2
      go_loopw [6, 36] (fun row i wr => ∃ j : Nat, ∃ R, j ≤ which.length ∧ i = .int .i64 (j : Int) ∧ dropsTo l which j = some R ∧ (∃ A c, row = .slice A l.length c ∧ wr.ownsRow w.heap.size 38 1 (.slice A l.length c) l.length (u64s R)) ∧ Below w.heap.size w wr) (fun _ i _ => which.length - (intOf i).toNat)
      case atStart => exact ⟨0, l, Nat.zero_le _, rfl, rfl, ⟨A1, c1, rfl, hown1⟩, hb1⟩
      case round =>
        obtain ⟨j, R, hj, rfl, hR, ⟨A2, c2, rfl, hrow⟩, hbel⟩ := hrel
        clear hown1 hb1
        have hRl : R.length = l.length := drops_length hR
        have hRw := drops_wd HW.out hR
        by_cases hlt : j < which.length
        · obtain ⟨b, o, rfl, hcell⟩ := (HU.out.below hbel).at_ (i64s_at hlt)
          obtain ⟨hx1, hx2⟩ := HI.out j hlt hlt
          have hs := dropsTo_succ (l := l) hlt
          rw [hR] at hs
          have hno := fun h => @drops_none_of l which (j + 1) h
          generalize which[j] = x at *
          obtain ⟨k, rfl⟩ : ∃ k : Nat, x = (k : Int) + 1 := ⟨(x - 1).toNat, by omega⟩
          rw [show ((k : Int) + 1 - 1).toNat = k by omega] at hs
          obtain ⟨g, cap, hv, hgb, hglt⟩ := hrow.form (by omega)
          injection hv with e1 e2 e3
          subst e1; subst e3
          have ht := wordHas_yes (.slice (some ⟨g, 0, none⟩) l.length c2) R (k : Int) wr (by rw [hRl]; exact Rd.of_own hrow) hRw (by unfold Idx; omega) (by omega)
          rw [Int.toNat_natCast] at ht
          have HT := Lib.hid ht
          have HS := Lib.hid hs
          have HN := Lib.hid hno
          have HRw := Lib.hid hRw
          have HRl := Lib.hid hRl
          have Hbel := Lib.hid hbel
          have Hrow := Lib.hid hrow
          clear ht hs hno hRw hRl hbel hR hrow
          go_wp2_with fail
          refine HT.out.mono ?_
          rintro e w' ⟨rfl, rfl⟩
          cases hb : bitOf R k with
          | true =>
            have Hb := Lib.hid hb
            clear hb
            have hq : k / 64 < R.length := by rw [HRl.out]; omega
            have hc := (Hrow.out.cellAt (k / 64) (by rw [Nat.mul_one, ← HRl.out]; exact hq)).trans (u64s_at hq)
            have hf := Hrow.out.frozenAt (k / 64)
            have hx : R[k / 64] < 18446744073709551616 := HRw.out _ (List.getElem_mem hq)
            have hg : R.getD (k / 64) 0 = R[k / 64] := getD_at hq
            have hst := (Hrow.out.stored (k / 64) (.int .u64 ((putW R[k / 64] (k % 64) 1 0 : Nat) : Int))).1
            rw [u64s_setAt, ← hg] at hst
            have hsb : R.set (k / 64) (putW (R.getD (k / 64) 0) (k % 64) 1 0) = setBit R k 0 := rfl
            rw [hsb] at hst
            rw [hg] at hst
            generalize R[k / 64] = x at *
            have Hst := Lib.hid hst
            have Hcb := Lib.hid (clear_bit x (k % 64) hx (by omega))
            have hki : (k : Int) / 64 < (l.length : Int) := by have := HRl.out; omega
            clear hst hsb hg
            have hk0 : (0 : Int) ≤ (k : Int) / 64 := by omega
            have hk1 : ((k : Int) / 64).toNat = k / 64 := by omega
            have hk2 : (0 : Int) ≤ (k : Int) % 64 := by omega
            have hk3 : ((k : Int) % 64).toNat = k % 64 := by omega
            go_wp2
            go_still_tail 12, (by kernel_rfl)
            repeat (refine wpStill_step (fun K hK => ?_); go_simp; (try go_bits); (try go_simp); refine hK _ ?_; clear hK K)
            refine wpStill_nil ?_
            go_wp2
            rw [Hcb.out]
            go_roundw
            case rel => exact ⟨j + 1, _, by omega, by go_num, by rw [HS.out]; simp only [Option.bind_some]; rw [if_pos Hb.out], ⟨_, _, rfl, Hst.out⟩, (Hbel.out.setCell hgb _).drew⟩
            case measure => simp [intOf]; omega
          | false =>
            have Hb := Lib.hid hb
            clear hb
            go_wp2
            go_ret2
            exact ⟨Hbel.out, .inr (.inl ⟨HI.out, HN.out (by rw [HS.out]; simp only [Option.bind_some]; rw [if_neg (by rw [Hb.out]; decide)]), rfl⟩)⟩
        · obtain rfl : j = which.length := by omega
          rw [dropsTo_all] at hR
          have HRR := Lib.hid hR
          have Hrow := Lib.hid hrow
          have Hbel := Lib.hid hbel
          clear hR hrow hRw hRl hbel
          go_wp2
          go_ret2
          exact ⟨Hbel.out, .inr (.inr ⟨HI.out, R, A2, c2, HRR.out, rfl, Hrow.out⟩)⟩
end Go.Proofs.Yteojodddfanepaa
