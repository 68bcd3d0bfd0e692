/- Lowest, on both sides: the least bit of a row that is 0. -/
import Derived.Test.YtlencbjaggaabaaDoorWordTz
import Derived.Test.YtlencbjaggaabaaDoorWordHas
namespace Go.Proofs.YtlencbjaggaabaaDoor
open Go.RowKit
set_option linter.unusedVariables false

/-- m is the least number of a bit that is 0 (behind the row all are) -/
def Low0 (l : List Nat) (m : Nat) : Prop := bitOf l m = false ∧ ∀ j, j < m → bitOf l j = true
theorem low0_ex (l : List Nat) : ∃ m, Low0 l m ∧ m ≤ 64 * l.length := by
  have h : ∀ n, (∀ j, j < n → bitOf l j = true) ∨ ∃ m, m < n ∧ Low0 l m := by
    intro n
    induction n with
    | zero => exact .inl fun j hj => by omega
    | succ n ih =>
      rcases ih with ih | ⟨m, hm, h⟩
      · cases hb : bitOf l n with
        | false => exact .inr ⟨n, by omega, hb, ih⟩
        | true =>
          refine .inl fun j hj => ?_
          rcases Nat.lt_or_ge j n with h1 | h1
          · exact ih j h1
          · obtain rfl : j = n := by omega
            exact hb
      · exact .inr ⟨m, by omega, h⟩
  rcases h (64 * l.length) with h | ⟨m, hm, h⟩
  · exact ⟨64 * l.length, ⟨bitOf_out (Nat.le_refl _), h⟩, Nat.le_refl _⟩
  · exact ⟨m, h, by omega⟩
theorem low0_le {l : List Nat} {m : Nat} (h : Low0 l m) : m ≤ 64 * l.length := by
  rcases Nat.lt_or_ge (64 * l.length) m with h1 | h1
  · have := h.2 _ h1
    rw [bitOf_out (Nat.le_refl _)] at this
    cases this
  · exact h1
theorem low0_one {l : List Nat} {m k : Nat} (h : Low0 l m) (h' : Low0 l k) : m = k := by
  rcases Nat.lt_trichotomy m k with h1 | h1 | h1
  · have := h'.2 _ h1; rw [h.1] at this; cases this
  · exact h1
  · have := h.2 _ h1; rw [h'.1] at this; cases this
def lowOut (m len : Nat) (n : Int) : Int × Bool := if (m : Int) < n ∧ m < 64 * len then ((m : Int), true) else (0, false)
theorem lowOut_yes {m len : Nat} {n : Int} (h : (m : Int) < n ∧ m < 64 * len) : lowOut m len n = ((m : Int), true) := if_pos h
theorem lowOut_no {m len : Nat} {n : Int} (h : ¬ ((m : Int) < n ∧ m < 64 * len)) : lowOut m len n = (0, false) := if_neg h
/-- all words ahead of k are full -/
def Full (l : List Nat) (k : Nat) : Prop := ∀ j, j < 64 * k → bitOf l j = true
theorem bitOf_word {l : List Nat} {k : Nat} (h : k < l.length) (i : Nat) (hi : i < 64) : bitOf l (64 * k + i) = (l[k]).testBit i := by
  unfold bitOf
  rw [show (64 * k + i) / 64 = k by omega, show (64 * k + i) % 64 = i by omega]
  simp [List.getD, h]
theorem full_bit (i : Nat) (hi : i < 64) : (18446744073709551615 : Nat).testBit i = true := by
  have e : (18446744073709551615 : Nat) = 2 ^ 64 - 1 := by decide
  rw [e, Nat.testBit_two_pow_sub_one]
  simp [hi]
theorem full_next {l : List Nat} {k : Nat} (h : Full l k) (hk : k < l.length) (hx : l[k] = 18446744073709551615) : Full l (k + 1) := by
  intro j hj
  rcases Nat.lt_or_ge j (64 * k) with h1 | h1
  · exact h j h1
  · obtain ⟨i, rfl⟩ : ∃ i, j = 64 * k + i := ⟨j - 64 * k, by omega⟩
    rw [bitOf_word hk i (by omega), hx, full_bit i (by omega)]
theorem full_low {l : List Nat} {k t : Nat} (h : Full l k) (hk : k < l.length) (hx : l[k] < 2 ^ 64) (ht : t < 64) (hl : LowAt (18446744073709551615 - l[k]) t) : Low0 l (64 * k + t) := by
  refine ⟨?_, fun j hj => ?_⟩
  · rw [bitOf_word hk t ht]
    have := hl.1
    rw [testBit_not hx ht] at this
    simpa using this
  · rcases Nat.lt_or_ge j (64 * k) with h1 | h1
    · exact h j h1
    · obtain ⟨i, rfl⟩ : ∃ i, j = 64 * k + i := ⟨j - 64 * k, by omega⟩
      rw [bitOf_word hk i (by omega)]
      have := hl.2 i (by omega)
      rw [testBit_not hx (by omega)] at this
      simpa using this
theorem full_all {l : List Nat} (h : Full l l.length) : Low0 l (64 * l.length) := ⟨bitOf_out (Nat.le_refl _), h⟩

theorem not_u64 (x : Nat) (hx : x < 18446744073709551616) : bits BinOp.xor IntKind.u64 IntKind.u64.max (x : Int) = ((18446744073709551615 - x : Nat) : Int) := by
  have e : IntKind.u64.max = ((18446744073709551615 : Nat) : Int) := by decide
  rw [e, u64_xor_nat _ _ (by decide) hx]
  congr 1
  apply Nat.eq_of_testBit_eq
  intro i
  rw [Nat.testBit_xor]
  by_cases hi : i < 64
  · rw [testBit_not hx hi, full_bit i hi]; simp
  · have h64 : (18446744073709551616 : Nat) ≤ 2 ^ i := Nat.pow_le_pow_right (show 0 < 2 by decide) (show 64 ≤ i by omega)
    rw [Nat.testBit_lt_two_pow (show 18446744073709551615 < 2 ^ i by omega), Nat.testBit_lt_two_pow (show x < 2 ^ i by omega), Nat.testBit_lt_two_pow (show 18446744073709551615 - x < 2 ^ i by omega)]
    rfl

def OutLow (w : World) (x : Int × Bool) (r : Ending) (w' : World) : Prop := r = .returned (.tuple #[.int .i64 x.1, .bool x.2]) ∧ w = w'

set_option maxHeartbeats 2000000 in
theorem Lowest_any (v : Value) (l : List Nat) (n : Int) (w : World) (h : Rd w v l.length (u64s l)) (hw : ∀ x ∈ l, x < 2 ^ 64) (hl : l.length ≤ 65536) (hn1 : -9223372036854775808 ≤ n) (hn2 : n ≤ 9223372036854775807) (ht : Tab w) (m : Nat) (hm : Low0 l m) :
    Calls Tryd.prog 19 #[v, .int .i64 n] w (OutLow w (lowOut m l.length n)) := by
  have hR := h
  obtain ⟨A, c, rfl, h1, h2, h3⟩ := h
  have HR := Lib.hid hR
  have HW := Lib.hid hw
  have HT := Lib.hid ht
  have HM := Lib.hid hm
  clear h3 hR hw ht hm
  go_enter Tryd.func19, Tryd.ntmps19
  go_wp2
  go_loop [6, 7, 8, 11] (fun _ _ _ i => ∃ k : Nat, k ≤ l.length ∧ i = .int .i64 k ∧ Full l k) (fun _ _ _ i => l.length - (intOf i).toNat)
  case atStart => exact ⟨0, by omega, rfl, fun j hj => by omega⟩
  case round =>
    obtain ⟨k, hk, rfl, hf⟩ := hrel
    have HF := Lib.hid hf
    clear hf
    by_cases hlt : k < l.length
    · obtain ⟨b, o, rfl, hc⟩ := HR.out.at_ (u64s_at hlt)
      have hx : l[k] < 18446744073709551616 := HW.out _ (List.getElem_mem hlt)
      by_cases he : l[k] = 18446744073709551615
      · have HN := Lib.hid (full_next HF.out hlt he)
        rw [he] at hc
        clear he hx
        go_wp2
        go_round
        case rel => exact ⟨k + 1, by omega, by go_num, HN.out⟩
        case measure => simp [intOf]; omega
      · have hne : (((l[k] : Nat) : Int) == 18446744073709551615) = false := by simp; omega
        have HL := Lib.hid (fun t ht h => full_low (t := t) HF.out hlt hx ht h)
        generalize l[k] = x at *
        have hnot := not_u64 x hx
        have hx2 : x < 18446744073709551615 := by omega
        clear he
        go_wp2_with fail
        ((with_reducible refine (tz_any (18446744073709551615 - x) (by omega) (by omega) _ HT.out).mono ?_))
        rintro e w' ⟨t, ⟨ht, hlow⟩, rfl, rfl⟩
        have hM := low0_one HM.out (HL.out t ht hlow)
        subst hM
        by_cases hn : (64 * k + t : Int) < n
        · have HO := Lib.hid (lowOut_yes (m := 64 * k + t) (len := l.length) (n := n) ⟨by omega, by omega⟩)
          have hn' : ¬ n ≤ (64 * k + t : Int) := by omega
          have hlow := 0
          go_wp2
          go_ret2
          unfold OutLow
          rw [HO.out]
          exact ⟨by push_cast; rfl, rfl⟩
        · have HO := Lib.hid (lowOut_no (m := 64 * k + t) (len := l.length) (n := n) (by omega))
          have hn' : n ≤ (64 * k + t : Int) := by omega
          have hlow := 0
          go_wp2
          go_ret2
          unfold OutLow
          rw [HO.out]
          exact ⟨rfl, rfl⟩
    · obtain rfl : k = l.length := by omega
      have hM := low0_one HM.out (full_all HF.out)
      have HO := Lib.hid (lowOut_no (m := m) (len := l.length) (n := n) (by omega))
      clear hM
      go_wp2
      go_ret2
      unfold OutLow
      rw [HO.out]
      exact ⟨rfl, rfl⟩
end Go.Proofs.YtlencbjaggaabaaDoor
