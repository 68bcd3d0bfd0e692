/- The walk of the law MediaOf. -/
import Derived.Test.YtdkcghicobakhaaMediaAlive
namespace Go.Proofs.Ytdkcghicobakhaa
open Go.RowKit
set_option linter.unusedVariables false

theorem sameW_yes (a b : Value) (l : List Nat) (n : Nat) (hn : l.length = n) (w : World) (ha : Rd w a n (u64s l)) (hb : Rd w b n (u64s l)) :
    Calls Try.prog 26 #[a, b] w fun e w' => e = .returned (.bool true) ∧ Below w.heap.size w w' := by
  subst hn
  refine (same_any a b l l w ha hb).mono ?_
  rintro e w' ⟨rfl, k, rfl⟩
  exact ⟨ret_bool (by simp), below_drewN (Below.refl _ _) k⟩
theorem Of_at (v : Value) (l : List Nat) (m : Nat) (hl : l.length = 8 * m) (h1 : 1 ≤ m) (h2 : m ≤ 4096) (w : World) (h : Rd w v (8 * m) (u64s l)) :
    Calls Try.prog 30 #[v] w fun e w' => ∃ g, e = .returned (.tuple #[.pointer (some ⟨g, 0, none⟩), .int .i64 0]) ∧ NewAt w w' g m l := by
  refine (Of_yes v l (8 * m) hl w h (by unfold MayOf; omega)).mono ?_
  rintro e w' ⟨g, rfl, S, hd, hb, hs⟩
  exact ⟨g, rfl, S, ⟨hd, hl, fun x hx => by simp at hx, List.Pairwise.nil⟩, hb, hs⟩

set_option maxHeartbeats 4000000 in
theorem mediaOf_walk (w : World) (v : Value) (l : List Nat) (hl : ∀ x ∈ l, x < 2 ^ 64) (hr : Rd w v l.length (u64s l)) (a : Int) (ha1 : -9223372036854775808 ≤ a) (ha2 : a ≤ 9223372036854775807) (x : Nat) (hx : x < 18446744073709551616) :
    Calls Try.prog 4 #[v, .int .i64 a, .int .u64 x] w fun e w' => e = .returned (.bool true) ∧ Below w.heap.size w w' := by
  have HR := Lib.hid hr
  obtain ⟨A, c, rfl, h1, h2, h3⟩ := hr
  unfold maxLen at h2
  clear hl h3
  by_cases hbig : 400 < l.length
  · have hd : decide ((400 : Int) < (l.length : Int)) = true := by simp; omega
    go_enter Try.func4, Try.ntmps4
    go_wp2_with fail
    refine (alive_any _).mono ?_
    rintro e w' ⟨rfl, hb⟩
    have Hb := Lib.hid hb
    clear hb
    go_wp2
    go_ret
    exact ⟨rfl, Hb.out⟩
  have hd : decide ((400 : Int) < (l.length : Int)) = false := by simp; omega
  by_cases hm : MayOf l.length
  case neg =>
    have HO := Lib.hid (fun (W : World) v (h : Rd W v l.length (u64s l)) => Of_no v l W h hm)
    have HRO := Lib.hid (fun (W : World) v (h : Rd W v l.length (u64s l)) => refOf_no v l W h hm)
    clear hm
    go_enter Try.func4, Try.ntmps4
    go_wp2_with (at_builtin; refine copy64 rfl (.const (.slice none 0 0)) (.tmp 15) rfl rfl _ l _ rfl rfl HR.out (by omega) ?_; intro A1 c1 w1 hown1 hb1; have Ho1 := Lib.hid (Rd.of_own hown1); have Hb1 := Lib.hid hb1; have Hl1 := Lib.hid (HR.out.below hb1); clear hown1 hb1)
    refine (HO.out _ _ Ho1.out).mono ?_
    rintro e w' ⟨rfl, rfl⟩
    go_wp2_with fail
    refine (HRO.out _ _ Hl1.out).mono ?_
    rintro e w' ⟨rfl, rfl⟩
    go_wp2_with fail
    refine (alive_any _).mono ?_
    rintro e w2 ⟨rfl, hb2⟩
    have Hb2 := Lib.hid (below_then Hb1.out hb2)
    clear hb2
    go_wp2
    go_ret
    exact ⟨rfl, Hb2.out⟩
  obtain ⟨m, hlm⟩ : ∃ m, l.length = 8 * m := ⟨l.length / 8, by unfold MayOf at hm; omega⟩
  have hm1 : 1 ≤ m := by unfold MayOf at hm; omega
  have hm2 : m ≤ 50 := by omega
  have HO := Lib.hid (fun (W : World) v (h : Rd W v l.length (u64s l)) => Of_at v l m hlm hm1 (by omega) W (by rw [← hlm]; exact h))
  have HRO := Lib.hid (fun (W : World) v (h : Rd W v l.length (u64s l)) => refOf_yes v l l.length rfl W h hm)
  have hq : ((m : Int) != (l.length : Int) / 8) = false := by simp; omega
  have Hlm := Lib.hid hlm
  clear hm
  by_cases ha : 0 ≤ a ∧ a < 8 * (m : Int)
  · obtain ⟨k, rfl⟩ := Int.eq_ofNat_of_zero_le ha.1
    have hk : k < 8 * m := by omega
    have hk2 : (k : Int) < (l.length : Int) := by omega
    have hd2 : decide ((k : Int) < (l.length : Int)) = true := by simpa using hk2
    clear ha hlm
    go_enter Try.func4, Try.ntmps4
    go_wp2_with (at_builtin; refine copy64 rfl (.const (.slice none 0 0)) (.tmp 15) rfl rfl _ l _ rfl rfl HR.out (by omega) ?_; intro A1 c1 w1 hown1 hb1; have Ho1 := Lib.hid (Rd.of_own hown1); have Hb1 := Lib.hid hb1; have Hl1 := Lib.hid (HR.out.below hb1); clear hown1 hb1)
    refine (HO.out _ _ Ho1.out).mono ?_
    rintro e w2 ⟨g, rfl, S2, h2', hb2, hs2⟩
    have H2 := Lib.hid h2'
    have C2 := Lib.hid hb2
    have G2 := Lib.hid hs2
    clear h2' hb2 hs2
    go_wp2_with fail
    refine (HRO.out _ _ (Hl1.out.below C2.out)).mono ?_
    rintro e w3 ⟨gr, rfl, _, _, hb3, _⟩
    have H3 := Lib.hid (H2.out.below hb3)
    have C3 := Lib.hid (below_then C2.out hb3)
    clear hb3
    go_wp2_with fail
    refine (Lines_at H3.out (by omega)).mono ?_
    rintro e w' ⟨rfl, rfl⟩
    go_wp2_with fail
    refine (Kept_at H3.out (by omega)).mono ?_
    rintro e w4 ⟨A4, c4, rfl, ho4, hb4⟩
    have H4 := Lib.hid (H3.out.below hb4)
    have C4 := Lib.hid (below_then C3.out hb4)
    have O4 := Lib.hid (Rd.of_own ho4)
    clear ho4 hb4
    go_wp2_with fail
    refine (sameW_yes _ _ l _ Hlm.out _ O4.out (by rw [← Hlm.out]; exact Hl1.out.below C4.out)).mono ?_
    rintro e w5 ⟨rfl, hb5⟩
    have H5 := Lib.hid (H4.out.below hb5)
    have C5 := Lib.hid (below_then C4.out hb5)
    clear hb5
    go_wp2_with fail
    refine (Words_at H5.out (by omega)).mono ?_
    rintro e w6 ⟨A6, c6, rfl, ho6, hb6⟩
    have H6 := Lib.hid (H5.out.below hb6)
    have C6 := Lib.hid (below_then C5.out hb6)
    have O6 := Lib.hid (Rd.of_own ho6)
    clear ho6 hb6
    go_wp2_with fail
    refine (sameW_yes _ _ l _ Hlm.out _ O6.out (by rw [← Hlm.out]; exact Hl1.out.below C6.out)).mono ?_
    rintro e w7 ⟨rfl, hb7⟩
    have H7 := Lib.hid (H6.out.below hb7)
    have C7 := Lib.hid (below_then C6.out hb7)
    clear hb7
    go_wp2_with fail
    refine (Pending_at H7.out (by simp)).mono ?_
    rintro e w8 ⟨A8, c8, rfl, ho8, hb8⟩
    have H8 := Lib.hid (H7.out.below hb8)
    have C8 := Lib.hid (below_then C7.out hb8)
    clear ho8 hb8
    go_wp2_with fail
    refine (Store_at H8.out (by omega) (by simp) k x hk hx).mono ?_
    rintro e w9 ⟨rfl, S9, h9, ht9, hs9⟩
    have H9 := Lib.hid h9
    have C9 := Lib.hid (C8.out.trans (ht9.below C8.out.size G2.out))
    clear h9 ht9 hs9
    go_wp2_with fail
    refine (sameW_yes _ _ l _ rfl _ (Ho1.out.below C9.out) (Hl1.out.below C9.out)).mono ?_
    rintro e w10 ⟨rfl, hb10⟩
    have H10 := Lib.hid (H9.out.below hb10)
    have C10 := Lib.hid (below_then C9.out hb10)
    clear hb10
    go_wp2_with fail
    refine (Kept_at H10.out (by omega)).mono ?_
    rintro e w11 ⟨A11, c11, rfl, ho11, hb11⟩
    have C11 := Lib.hid (below_then C10.out hb11)
    have O11 := Lib.hid (Rd.of_own ho11)
    clear ho11 hb11
    go_wp2_with fail
    refine (sameW_yes _ _ l _ Hlm.out _ O11.out (by rw [← Hlm.out]; exact Hl1.out.below C11.out)).mono ?_
    rintro e w12 ⟨rfl, hb12⟩
    have C12 := Lib.hid (below_then C11.out hb12)
    clear hb12
    go_wp2_with fail
    refine (alive_any _).mono ?_
    rintro e w13 ⟨rfl, hb13⟩
    have C13 := Lib.hid (below_then Hb1.out (below_then C12.out hb13))
    clear hb13
    go_wp2
    go_ret
    exact ⟨rfl, C13.out⟩
  · have HA := Lib.hid ha
    have hcase : a < 0 ∨ (0 ≤ a ∧ (l.length : Int) ≤ a) := by omega
    clear ha hlm
    rcases hcase with hk1 | ⟨hk1, hk2⟩
    all_goals
      first
        | (have hd2 : decide (0 ≤ a) = false := by simpa using hk1)
        | (have hd2 : decide (0 ≤ a) = true := by simpa using hk1
           have hd3 : decide (a < (l.length : Int)) = false := by simpa using hk2)
      go_enter Try.func4, Try.ntmps4
      go_wp2_with (at_builtin; refine copy64 rfl (.const (.slice none 0 0)) (.tmp 15) rfl rfl _ l _ rfl rfl HR.out (by omega) ?_; intro A1 c1 w1 hown1 hb1; have Ho1 := Lib.hid (Rd.of_own hown1); have Hb1 := Lib.hid hb1; have Hl1 := Lib.hid (HR.out.below hb1); clear hown1 hb1)
      refine (HO.out _ _ Ho1.out).mono ?_
      rintro e w2 ⟨g, rfl, S2, h2', hb2, hs2⟩
      have H2 := Lib.hid h2'
      have C2 := Lib.hid hb2
      have G2 := Lib.hid hs2
      clear h2' hb2 hs2
      go_wp2_with fail
      refine (HRO.out _ _ (Hl1.out.below C2.out)).mono ?_
      rintro e w3 ⟨gr, rfl, _, _, hb3, _⟩
      have H3 := Lib.hid (H2.out.below hb3)
      have C3 := Lib.hid (below_then C2.out hb3)
      clear hb3
      go_wp2_with fail
      refine (Lines_at H3.out (by omega)).mono ?_
      rintro e w' ⟨rfl, rfl⟩
      go_wp2_with fail
      refine (Kept_at H3.out (by omega)).mono ?_
      rintro e w4 ⟨A4, c4, rfl, ho4, hb4⟩
      have H4 := Lib.hid (H3.out.below hb4)
      have C4 := Lib.hid (below_then C3.out hb4)
      have O4 := Lib.hid (Rd.of_own ho4)
      clear ho4 hb4
      go_wp2_with fail
      refine (sameW_yes _ _ l _ Hlm.out _ O4.out (by rw [← Hlm.out]; exact Hl1.out.below C4.out)).mono ?_
      rintro e w5 ⟨rfl, hb5⟩
      have H5 := Lib.hid (H4.out.below hb5)
      have C5 := Lib.hid (below_then C4.out hb5)
      clear hb5
      go_wp2_with fail
      refine (Words_at H5.out (by omega)).mono ?_
      rintro e w6 ⟨A6, c6, rfl, ho6, hb6⟩
      have H6 := Lib.hid (H5.out.below hb6)
      have C6 := Lib.hid (below_then C5.out hb6)
      have O6 := Lib.hid (Rd.of_own ho6)
      clear ho6 hb6
      go_wp2_with fail
      refine (sameW_yes _ _ l _ Hlm.out _ O6.out (by rw [← Hlm.out]; exact Hl1.out.below C6.out)).mono ?_
      rintro e w7 ⟨rfl, hb7⟩
      have H7 := Lib.hid (H6.out.below hb7)
      have C7 := Lib.hid (below_then C6.out hb7)
      clear hb7
      go_wp2_with fail
      refine (Pending_at H7.out (by simp)).mono ?_
      rintro e w8 ⟨A8, c8, rfl, ho8, hb8⟩
      have H8 := Lib.hid (H7.out.below hb8)
      have C8 := Lib.hid (below_then C7.out hb8)
      clear ho8 hb8
      go_wp2_with fail
      refine (Store_out H8.out (by omega) a x HA.out).mono ?_
      rintro e w' ⟨rfl, rfl⟩
      have H9 := H8
      have C9 := C8
      go_wp2_with fail
      refine (sameW_yes _ _ l _ rfl _ (Ho1.out.below C9.out) (Hl1.out.below C9.out)).mono ?_
      rintro e w10 ⟨rfl, hb10⟩
      have H10 := Lib.hid (H9.out.below hb10)
      have C10 := Lib.hid (below_then C9.out hb10)
      clear hb10
      go_wp2_with fail
      refine (Kept_at H10.out (by omega)).mono ?_
      rintro e w11 ⟨A11, c11, rfl, ho11, hb11⟩
      have C11 := Lib.hid (below_then C10.out hb11)
      have O11 := Lib.hid (Rd.of_own ho11)
      clear ho11 hb11
      go_wp2_with fail
      refine (sameW_yes _ _ l _ Hlm.out _ O11.out (by rw [← Hlm.out]; exact Hl1.out.below C11.out)).mono ?_
      rintro e w12 ⟨rfl, hb12⟩
      have C12 := Lib.hid (below_then C11.out hb12)
      clear hb12
      go_wp2_with fail
      refine (alive_any _).mono ?_
      rintro e w13 ⟨rfl, hb13⟩
      have C13 := Lib.hid (below_then Hb1.out (below_then C12.out hb13))
      clear hb13
      go_wp2
      go_ret
      exact ⟨rfl, C13.out⟩
end Go.Proofs.Ytdkcghicobakhaa
