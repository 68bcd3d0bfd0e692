/- What the functions of chapter 2 do when they are called: sum.on, More, Of, and those of the document. Each is walked once; what it returns is the plain function of the text SumPlain. -/
import Derived.Test.YtnpmepklgakaiaaDoorRows
import Derived.Test.YtnpmepklgakaiaaDoorMem
import Derived.Test.YtnpmepklgakaiaaDoorSumPlain
namespace Go.Proofs.YtnpmepklgakaiaaDoor
set_option linter.unusedVariables false
open Go.RowKit

/-! ### one step, in the walk's words -/
theorem step_go (x : Nat) (hx : x < 4294967296) :
    bits BinOp.xor IntKind.u32 ((x : Int) / 2) (bits BinOp.and IntKind.u32 3988292384 (-bits BinOp.and IntKind.u32 (x : Int) 1 % 4294967296)) = ((tb x : Nat) : Int) := by
  have h1 : bits BinOp.and IntKind.u32 (x : Int) 1 = ((x % 2 : Nat) : Int) := by
    have := u32_and_nat x 1 hx (by decide)
    rw [Nat.and_one_is_mod] at this
    exact this
  rw [h1]
  have h2 : ((x : Int) / 2) = ((x / 2 : Nat) : Int) := by omega
  unfold tb
  rcases Nat.mod_two_eq_zero_or_one x with h | h
  · rw [h, if_neg (by decide), h2]
    have h3 : bits BinOp.and IntKind.u32 3988292384 (-((0 : Nat) : Int) % 4294967296) = ((0 : Nat) : Int) := by
      have := u32_and_nat 3988292384 0 (by decide) (by decide)
      simpa using this
    rw [h3, u32_xor_nat _ _ (by omega) (by decide)]
    simp
  · rw [h, if_pos rfl, h2]
    have h3 : bits BinOp.and IntKind.u32 3988292384 (-((1 : Nat) : Int) % 4294967296) = ((3988292384 : Nat) : Int) := by
      have := u32_and_nat 3988292384 4294967295 (by decide) (by decide)
      rw [show (3988292384 &&& 4294967295 : Nat) = 3988292384 by decide] at this
      exact this
    rw [h3, u32_xor_nat _ _ (by omega) (by decide)]
    rfl
theorem tn_succ (k x : Nat) : tn (k + 1) x = tb (tn k x) := rfl

set_option maxHeartbeats 400000 in
theorem on_any (c b : Nat) (hc : c < 4294967296) (hb : b < 256) (w : World) :
    Calls Tryd.prog 53 #[.int .u32 c, .int .u8 b] w fun e w' => e = .returned (.int .u32 (on c b : Nat)) ∧ w = w' := by
  have H0 : Hid (bits .xor .u32 (c : Int) (b : Int) = ((c ^^^ b : Nat) : Int)) := u32_xor_nat c b hc (by omega)
  have hx0 : c ^^^ b < 4294967296 := Nat.xor_lt_two_pow (n := 32) hc (by omega)
  go_enter Tryd.func53, Tryd.ntmps53
  go_wp2
  go_loop [0, 9] (fun c' i => ∃ k : Nat, k ≤ 8 ∧ i = .int .i64 k ∧ c' = .int .u32 (tn k (c ^^^ b) : Nat)) (fun _ i => 8 - (intOf i).toNat)
  case atStart => exact ⟨0, by omega, rfl, by rw [H0.out]; rfl⟩
  case round =>
    obtain ⟨k, hk, rfl, rfl⟩ := hrel
    have hx : tn k (c ^^^ b) < 4294967296 := tn_lt k hx0
    have hs := tn_succ k (c ^^^ b)
    generalize hgx : tn k (c ^^^ b) = x at *
    have Hx := Lib.hid hgx
    clear hgx
    have H1 := Lib.hid hs
    clear hs
    by_cases hlt : k < 8
    · go_wp2
      go_round
      case rel => exact ⟨k + 1, by omega, by go_num, by rw [step_go x hx, H1.out]⟩
      case measure => simp [intOf]; omega
    · go_wp2
      go_ret
      obtain rfl : k = 8 := by omega
      exact ⟨by rw [← Hx.out]; rfl, rfl⟩

/-! ### texts -/
theorem not_u32 (x : Nat) (hx : x < 4294967296) : bits BinOp.xor IntKind.u32 IntKind.u32.max (x : Int) = ((x ^^^ full : Nat) : Int) := by
  have := u32_xor_nat 4294967295 x (by decide) hx
  rw [Nat.xor_comm] at this
  exact this
theorem xor_u32 (x : Nat) (hx : x < 4294967296) : bits BinOp.xor IntKind.u32 (x : Int) 4294967295 = ((x ^^^ full : Nat) : Int) := u32_xor_nat x 4294967295 hx (by decide)


theorem half_u32 (x : Nat) (hx : x < 4294967296) : bits BinOp.xor IntKind.u32 ((x : Int) / 2) 3988292384 = ((x / 2 ^^^ poly : Nat) : Int) := by
  have := u32_xor_nat (x / 2) 3988292384 (by omega) (by decide)
  rw [show ((x / 2 : Nat) : Int) = (x : Int) / 2 by omega] at this
  exact this
theorem tb_odd {x : Nat} (h : x % 2 = 1) : tb x = x / 2 ^^^ poly := by unfold tb; rw [if_pos h]
theorem tb_ev {x : Nat} (h : ¬ x % 2 = 1) : tb x = x / 2 := by unfold tb; rw [if_neg h]

set_option maxHeartbeats 400000 in
theorem refMore_any (c : Nat) (s : ByteArray) (hc : c < 4294967296) (hs : s.size ≤ maxLen) (w : World) :
    Calls Tryd.prog 38 #[.int .u32 c, .string s] w fun e w' => e = .returned (.int .u32 (more c (bs s) : Nat)) ∧ w = w' := by
  unfold maxLen at hs
  have H0 := Lib.hid (xor_u32 c hc)
  have hx0 : c ^^^ full < 4294967296 := Nat.xor_lt_two_pow (n := 32) hc (by decide)
  go_enter Tryd.func38, Tryd.ntmps38
  go_wp2
  go_loop [0, 5] (fun c' i => ∃ k : Nat, k ≤ s.size ∧ i = .int .i64 k ∧ c' = .int .u32 (fold (c ^^^ full) ((bs s).take k) : Nat)) (fun _ i => s.size - (intOf i).toNat)
  case atStart => exact ⟨0, by omega, rfl, by rw [H0.out]; rfl⟩
  case round =>
    obtain ⟨k, hk, rfl, rfl⟩ := hrel
    have hx : fold (c ^^^ full) ((bs s).take k) < 4294967296 := fold_lt hx0 (fun b hb => bs_lt s b (List.mem_of_mem_take hb))
    by_cases hlt : k < s.size
    · have hstep : fold (c ^^^ full) ((bs s).take (k + 1)) = tn 8 (fold (c ^^^ full) ((bs s).take k) ^^^ s[k].toNat) := by rw [bs_take s k hlt, fold_append]; rfl
      have Hs := Lib.hid hstep
      clear hstep
      generalize hgx : fold (c ^^^ full) ((bs s).take k) = x at *
      clear hgx
      have hb := s[k].toNat_lt
      have hy0 : x ^^^ s[k].toNat < 4294967296 := Nat.xor_lt_two_pow (n := 32) hx (by omega)
      have H2 := Lib.hid (u32_xor_nat x s[k].toNat hx (by omega))
      go_wp2
      go_loop [0, 6] (fun c' i => ∃ j : Nat, j ≤ 8 ∧ i = .int .i64 j ∧ c' = .int .u32 (tn j (x ^^^ s[k].toNat) : Nat)) (fun _ i => 8 - (intOf i).toNat)
      case atStart => exact ⟨0, by omega, rfl, by rw [H2.out]; rfl⟩
      case round =>
        obtain ⟨j, hj, rfl, rfl⟩ := hrel
        have hy : tn j (x ^^^ s[k].toNat) < 4294967296 := tn_lt j hy0
        have hs' := tn_succ j (x ^^^ s[k].toNat)
        generalize hgy : tn j (x ^^^ s[k].toNat) = y at *
        have Hy := Lib.hid hgy
        have H3 := Lib.hid hs'
        clear hgy hs'
        by_cases hlt2 : j < 8
        · by_cases hodd : y % 2 = 1
          · have ho : ((y : Int) % 2 == 1) = true := by simp; omega
            have H4 := Lib.hid hodd
            clear hodd
            go_wp2
            go_round
            case rel => exact ⟨j + 1, by omega, by go_num, by rw [half_u32 y hy, H3.out, tb_odd H4.out]⟩
            case measure => simp [intOf]; omega
          · have ho : ((y : Int) % 2 == 1) = false := by simp; omega
            have H4 := Lib.hid hodd
            clear hodd
            go_wp2
            go_round
            case rel => exact ⟨j + 1, by omega, by go_num, by rw [H3.out, tb_ev H4.out]; go_num⟩
            case measure => simp [intOf]; omega
        · obtain rfl : j = 8 := by omega
          go_wp2
          go_round
          case rel => exact ⟨k + 1, by omega, by go_num, by rw [Hs.out, Hy.out]⟩
          case measure => simp [intOf]; omega
    · obtain rfl : k = s.size := by omega
      have hfull : (bs s).take s.size = bs s := List.take_of_length_le (by rw [bs_length]; omega)
      rw [hfull] at hx ⊢
      clear hfull
      have H1 := Lib.hid (xor_u32 _ hx)
      go_wp2
      go_ret
      exact ⟨ret_int (by rw [H1.out]; rfl), rfl⟩

end Go.Proofs.YtnpmepklgakaiaaDoor
