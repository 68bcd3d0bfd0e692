/- The walk of the law WordTakes. -/
import Derived.Test.YtlencbjaggaabaaDoorWordAlive
namespace Go.Proofs.YtlencbjaggaabaaDoor
open Go.RowKit
set_option linter.unusedVariables false
attribute [local go_sem ↓] run_least2

theorem cnt_set {R : List Nat} {m : Nat} (hm : m < 64 * R.length) (hb : bitOf R m = false) : ∀ N, cnt (setBit R m 1) N = cnt R N + if m < N then 1 else 0 := by
  intro N
  induction N with
  | zero => rfl
  | succ N ih =>
    rw [cnt_succ, cnt_succ, ih, bitOf_setBit _ _ _ _ hm]
    by_cases h : N = m
    · subst h
      rw [if_pos rfl, hb, if_neg (show ¬ N < N by omega), if_pos (show N < N + 1 by omega)]
      simp
    · rw [if_neg h]
      by_cases h2 : m < N
      · rw [if_pos h2, if_pos (show m < N + 1 by omega)]; omega
      · rw [if_neg h2, if_neg (show ¬ m < N + 1 by omega)]; omega
theorem cnt_full {R : List Nat} {N : Nat} (h : ∀ j, j < N → bitOf R j = true) : cnt R N = N := by
  induction N with
  | zero => rfl
  | succ N ih => rw [cnt_succ, ih (fun j hj => h j (by omega)), if_pos (h N (by omega))]
theorem cnt_hole {R : List Nat} {m N : Nat} (hm : m < N) (hb : bitOf R m = false) : cnt R N < N := by
  induction N with
  | zero => omega
  | succ N ih =>
    rw [cnt_succ]
    rcases Nat.lt_or_ge m N with h | h
    · have := ih h; split <;> omega
    · obtain rfl : m = N := by omega
      rw [hb]
      have := cnt_le R m
      simp; omega

set_option maxHeartbeats 8000000 in
theorem wordTakes_walk (w : World) (ht : Tab w) (v : Value) (l : List Nat) (hl : ∀ x ∈ l, x < 2 ^ 64) (hr : Rd w v l.length (u64s l)) (n : Nat) (hn : n < 256) :
    Calls Tryd.prog 6 #[v, .int .u8 n] w fun e w' => e = .returned (.bool true) ∧ Below w.heap.size w w' := by
  have HT := Lib.hid ht
  have HR := Lib.hid hr
  have HW := Lib.hid hl
  obtain ⟨A, c, rfl, h1, h2, h3⟩ := hr
  unfold maxLen at h2
  clear ht hl h3
  by_cases hbig : 5 < l.length
  · have hd : decide ((5 : Int) < (l.length : Int)) = true := by simp; omega
    go_enter Tryd.func6, Tryd.ntmps6
    go_wp2_with fail
    refine (alive_any _ HT.out).mono ?_
    rintro e w' ⟨rfl, hb⟩
    have Hb := Lib.hid hb
    clear hb
    go_wp2
    go_ret
    exact ⟨rfl, Hb.out⟩
  have hd : decide ((5 : Int) < (l.length : Int)) = false := by simp; omega
  have hl1 : l.length ≤ 65536 := by omega
  obtain ⟨most, hmost⟩ : ∃ m, m = min n (64 * l.length) := ⟨_, rfl⟩
  have hU : upN l (n : Int) = most := by unfold upN; omega
  have hcl := cnt_le l most
  obtain ⟨left, hleft0⟩ : ∃ m, m = most - cnt l most := ⟨_, rfl⟩
  have hleft : (most : Int) - ((cnt l most : Nat) : Int) = (left : Int) := by omega
  have hls : least2 (n : Int) (64 * (l.length : Int)) = (most : Int) := by unfold least2; split <;> omega
  have hCo := fun W v (h : Rd W v l.length (u64s l)) => Count_any v l n W h HW.out hl1 (by omega) (by omega)
  rw [hU] at hCo
  have HCo := Lib.hid hCo
  have HL0 := Lib.hid hleft0
  have HM0 := Lib.hid hmost
  have hmb : most ≤ n ∧ most ≤ 64 * l.length ∧ (n ≤ most ∨ 64 * l.length ≤ most) := by omega
  generalize hC : cnt l most = C at *
  have HC := Lib.hid hC
  have hlb : left ≤ most ∧ C + left = most := by omega
  clear hC hCo hU hleft0 hmost
  obtain ⟨hmb1, hmb2, hmb3⟩ := hmb
  obtain ⟨hlb1, hlb2⟩ := hlb
  have HB2 := Lib.hid hlb2
  clear hlb2
  go_enter Tryd.func6, Tryd.ntmps6
  go_wp2_with (at_builtin; refine copy64 rfl (.const (.slice none 0 0)) (.tmp 25) rfl rfl _ l _ rfl rfl HR.out (by omega) ?_; intro A1 c1 w1 hown1 hb1; have Ho1 := Lib.hid (Rd.of_own hown1); have Hb1 := Lib.hid hb1; have Hl1 := Lib.hid (HR.out.below hb1); have HT1 := Lib.hid (HT.out.below hb1); clear hown1 hb1)
  refine (HCo.out _ _ Ho1.out).mono ?_
  rintro e w' ⟨rfl, rfl⟩
  go_wp2_with (at_builtin; refine copy64 rfl (.const (.slice none 0 0)) (.tmp 31) rfl rfl _ l _ rfl rfl Hl1.out (by omega) ?_; intro A2 c2 w2 hown2 hb2; have Ho2 := Lib.hid (Rd.of_own hown2); have Hb2 := Lib.hid (below_then Hb1.out hb2); clear hown2 hb2)
  go_loopw [7, 8, 9, 10, 11, 12, 13] (fun row bef k _ _ _ _ wr => ∃ (j : Nat) (R : List Nat) (b : Int) (A : Option Addr) (c : Nat), j ≤ left ∧ k = .int .i64 j ∧ bef = .int .i64 b ∧ (-1 ≤ b ∧ b ≤ 256) ∧ row = .slice A l.length c ∧ Rd wr (.slice A l.length c) l.length (u64s R) ∧
      R.length = l.length ∧ Wd64 R ∧ cnt R most = C + j ∧ (∀ i : Nat, (i : Int) ≤ b → bitOf R i = true) ∧ Below w.heap.size w wr) (fun _ _ k _ _ _ _ _ => left + 1 - (intOf k).toNat)
  case atStart => exact ⟨0, l, -1, A2, c2, by omega, rfl, rfl, by omega, rfl, Ho2.out, rfl, HW.out, by rw [HC.out]; rfl, fun i hi => by omega, Hb2.out⟩
  case round =>
    obtain ⟨j, R, b, A3, c3, hj, rfl, rfl, hbb, rfl, hR, hRl, hRw, hRc, hRb, hbel⟩ := hrel
    obtain ⟨m, hm, hml⟩ := low0_ex R
    have hlo := Lowest_any (.slice A3 l.length c3) R n wr (by rw [hRl]; exact hR) hRw (by omega) (by omega) (by omega) (HT.out.below hbel) m hm
    rw [hRl] at hlo
    by_cases hlt : m < most
    · have hh := cnt_hole hlt hm.1
      rw [hRc] at hh
      have hjl : j < left := by have := HB2.out; omega
      rw [lowOut_yes ⟨by omega, by omega⟩] at hlo
      have hmR : m < 64 * R.length := by rw [hRl]; omega
      have hbm : ¬ (m : Int) ≤ b := fun h => by
        have := hRb m h
        rw [hm.1] at this
        cases this
      have hwi := With_yes (.slice A3 l.length c3) R m true wr (by rw [hRl]; exact hR) hRw (by unfold Idx; omega) (by omega)
      rw [Int.toNat_natCast, show num01 true = 1 from rfl, hRl] at hwi
      have hcs := cnt_set hmR hm.1 most
      rw [if_pos hlt, hRc] at hcs
      have hsb : ∀ i : Nat, (i : Int) ≤ (m : Int) → bitOf (setBit R m 1) i = true := fun i hi => by
        rw [bitOf_setBit _ _ _ _ hmR]
        by_cases h : i = m
        · rw [if_pos h]; rfl
        · rw [if_neg h]; exact hm.2 i (by omega)
      have Hcs := Lib.hid hcs
      have Hsb := Lib.hid hsb
      have Hsw := Lib.hid (setBit_wd hRw m 1)
      have Hsl := Lib.hid (show (setBit R m 1).length = l.length by rw [setBit_length, hRl])
      have Hlo := Lib.hid hlo
      have Hwi := Lib.hid hwi
      have Hbel := Lib.hid hbel
      have d1 : decide ((j : Int) < (left : Int)) = true := by simp; omega
      have d2 : decide ((m : Int) ≤ b) = false := by simp; omega
      have d3 : decide ((most : Int) ≤ (m : Int)) = false := by simp; omega
      have d4 : ((l.length : Int) != (l.length : Int)) = false := by simp
      clear hR hRl hRw hRc hRb hbel hm hlo hwi hcs hsb hh hbm hmR hml
      generalize setBit R m 1 = S at *
      go_wp2_with fail
      refine Hlo.out.mono ?_
      rintro e w' ⟨rfl, rfl⟩
      go_wp2_with fail
      refine Hwi.out.mono ?_
      rintro e w3 ⟨A4, c4, rfl, hown4, hb4⟩
      have Ho4 := Lib.hid (Rd.of_own hown4)
      have Hb4 := Lib.hid (below_then Hbel.out hb4)
      clear hown4 hb4
      go_wp2_with (at_builtin; refine copy64 rfl (.const (.slice none 0 0)) (.tmp 89) rfl rfl _ S _ Hsl.out rfl Ho4.out (by omega) ?_; intro A5 c5 w5 hown5 hb5; have Ho5 := Lib.hid (Rd.of_own hown5); have Hb5 := Lib.hid (below_then Hb4.out hb5); clear hown5 hb5)
      go_roundw
      case rel => exact ⟨j + 1, S, m, A5, c5, by omega, by go_num, rfl, by omega, rfl, Ho5.out, Hsl.out, Hsw.out, by rw [Hcs.out]; omega, Hsb.out, Hb5.out⟩
      case measure => simp [intOf]; omega
    · have hf := cnt_full (R := R) (N := most) (fun i hi => hm.2 i (by omega))
      rw [hRc] at hf
      have hjl : j = left := by have := HB2.out; omega
      rw [lowOut_no (by omega)] at hlo
      have hU2 : upN R (n : Int) = most := by unfold upN; rw [hRl]; omega
      have hct := Count_any (.slice A3 l.length c3) R n wr (by rw [hRl]; exact hR) hRw (by omega) (by omega) (by omega)
      rw [hU2, hRc, hf] at hct
      have Hlo := Lib.hid hlo
      have Hct := Lib.hid hct
      have Hbel := Lib.hid hbel
      have d1 : decide ((j : Int) < (left : Int)) = false := by simp; omega
      have d2 : decide ((j : Int) < (most : Int) + 1) = true := by simp; omega
      have d4 : ((most : Int) == (most : Int)) = true := by simp
      clear hR hRl hRw hRc hRb hbel hm hlo hct hf hU2 hml
      subst hjl
      go_wp2_with fail
      refine Hlo.out.mono ?_
      rintro e w' ⟨rfl, rfl⟩
      go_wp2_with fail
      refine Hct.out.mono ?_
      rintro e w' ⟨rfl, rfl⟩
      go_wp2_with fail
      refine (alive_any _ (HT.out.below Hbel.out)).mono ?_
      rintro e w6 ⟨rfl, hb6⟩
      have Hb6 := Lib.hid (below_then Hbel.out hb6)
      clear hb6
      go_wp2
      go_ret
      exact ⟨rfl, Hb6.out⟩
end Go.Proofs.YtlencbjaggaabaaDoor
