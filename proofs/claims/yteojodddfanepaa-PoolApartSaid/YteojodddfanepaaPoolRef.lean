/- parcloseref15.May, taken, Free, Turned, Take, Drop: what they return. -/
import Derived.Test.YteojodddfanepaaRefWith
import Derived.Test.YteojodddfanepaaPoolPlain
import Derived.Test.YteojodddfanepaaSameI
import Derived.Maps.AppendAt
namespace Go.Proofs.Yteojodddfanepaa
open Go.RowKit
set_option linter.unusedVariables false

theorem infoInt : (Try.prog.info? 3).map (fun i => (i.zero, i.size, i.bytes)) = some (some (.int .i64 0), 1, 8) := by kernel_rfl
/-- 'append(ns, x)' onto a row of ints of the call's own -/
theorem push_int {ops : Array Oper} {rest : List Oper} {o : Oper} {a : Act} {w : World} {Q : Exit → Act → World → Prop} (hw : Region.wanted o (yielded ops a.tmps) = true) (s x : Operand)
    (ho : o.op = .call { callee := .builtin .append, args := #[s, x], argTypes := #[25, 25] })
    (base : Nat) (v : Value) (l : List Int) (n : Nat) (hs : a.eval s = v) (hown : w.ownsRow base 3 1 v n (i64s l))
    (u : Value) (z : Int) (hx : a.eval x = u) (hr : Rd w u 1 [.int .i64 z]) (hb : n ≤ 4294967296) (hbase : base ≤ w.heap.size)
    (h : ∀ A c w', w'.ownsRow base 3 1 (.slice A (n + 1) c) (n + 1) (i64s (l ++ [z])) → w.grownBy w' v.ownBlock → wpList Try.prog ops Q rest (a.put o.dst (.slice A (n + 1) c)) w') : wpList Try.prog ops Q (o :: rest) a w := by
  obtain ⟨i0, hi, hz0, hz1, hz2⟩ := info_parts infoInt
  refine wpList_append_rd hw s x _ ho base 3 i0 _ 1 8 Try.underlying25 hi hz0 hz1 hz2 rfl (by decide) v n (i64s l) hs hown u 1 [.int .i64 z] hx hr rfl (by simp [Value.oneCell']) (by unfold maxLen; omega) (by omega) hbase (fun A c w' h2 h3 => h A c w' ?_ h3)
  rw [i64s_append]
  exact h2

/-- may there be so many? -/
def May (l : List Nat) (n : Int) : Prop := 0 ≤ n ∧ n ≤ 64 * l.length

set_option maxHeartbeats 1000000 in
theorem refMay_yes (v : Value) (l : List Nat) (n : Int) (w : World) (h : Rd w v l.length (u64s l)) (hn : May l n) (hl : l.length ≤ 65536) :
    Calls Try.prog 25 #[v, .int .i64 n] w fun e w' => e = .returned (.bool true) ∧ w = w' := by
  obtain ⟨A, c, rfl, h1, h2, h3⟩ := h
  obtain ⟨n1, n2⟩ := hn
  clear h3
  by_cases h0 : n = 0
  · have hz : (n == 0) = true := by simpa using h0
    clear h0
    go_enter Try.func25, Try.ntmps25
    go_wp2
    go_ret
    exact ⟨rfl, rfl⟩
  · have hz : (n == 0) = false := by simpa using h0
    have hp : 1 ≤ n := by omega
    have hd : decide ((n - 1) / 64 < (l.length : Int)) = true := by simp; omega
    clear h0
    go_enter Try.func25, Try.ntmps25
    go_wp2
    go_ret
    exact ⟨ret_bool (by first | rfl | exact hd), rfl⟩
set_option maxHeartbeats 1000000 in
theorem refMay_no (v : Value) (l : List Nat) (n : Int) (w : World) (h : Rd w v l.length (u64s l)) (hn : ¬ May l n) (hn1 : -9223372036854775808 ≤ n) (hn2 : n ≤ 9223372036854775807) (hl : l.length ≤ 65536) :
    Calls Try.prog 25 #[v, .int .i64 n] w fun e w' => e = .returned (.bool false) ∧ w = w' := by
  obtain ⟨A, c, rfl, h1, h2, h3⟩ := h
  clear h3
  by_cases h0 : 0 ≤ n
  · have hz : (n == 0) = false := by unfold May at hn; simp; omega
    have hp : 1 ≤ n := by unfold May at hn; omega
    have hd : decide ((n - 1) / 64 < (l.length : Int)) = false := by unfold May at hn; simp; omega
    clear hn
    go_enter Try.func25, Try.ntmps25
    go_wp2
    go_ret
    exact ⟨ret_bool (by first | rfl | exact hd), rfl⟩
  · have h0' : n < 0 := by omega
    clear hn h0
    go_enter Try.func25, Try.ntmps25
    go_wp2
    go_ret
    exact ⟨ret_bool (by first | rfl | (simp; omega)), rfl⟩

set_option maxHeartbeats 1000000 in
theorem taken_any (v : Value) (l : List Nat) (i : Int) (w : World) (h : Rd w v l.length (u64s l)) (hw : ∀ x ∈ l, x < 2 ^ 64) (h1 : 1 ≤ i) (h2 : i ≤ 64 * l.length) (hl : l.length ≤ 65536) :
    Calls Try.prog 23 #[v, .int .i64 i] w fun e w' => e = .returned (.bool (bitOf l (i - 1).toNat)) ∧ w = w' := by
  have HH := Lib.hid (refHas_yes v l (i - 1) w h hw (by unfold Idx; omega) hl)
  clear h hw
  go_enter Try.func23, Try.ntmps23
  go_wp2_with fail
  refine HH.out.mono ?_
  rintro e w' ⟨rfl, rfl⟩
  go_wp2
  go_ret
  exact ⟨ret_bool (by rw [show (i - 1).toNat = i.toNat - 1 by omega]), rfl⟩

set_option maxHeartbeats 1000000 in
theorem refFree_yes (v : Value) (l : List Nat) (n : Nat) (w : World) (h : Rd w v l.length (u64s l)) (hw : ∀ x ∈ l, x < 2 ^ 64) (hn : n ≤ 64 * l.length) (hl : l.length ≤ 65536) :
    Calls Try.prog 13 #[v, .int .i64 n] w fun e w' => e = .returned (.tuple #[.int .i64 ((frees l n).length : Nat), .int .i64 0]) ∧ w = w' := by
  have HR := Lib.hid h
  have HW := Lib.hid hw
  have HM := Lib.hid (refMay_yes v l n w h (by unfold May; omega) hl)
  clear h hw
  go_enter Try.func13, Try.ntmps13
  go_wp2_with fail
  refine HM.out.mono ?_
  rintro e w' ⟨rfl, rfl⟩
  go_wp2_with fail
  go_loop [6, 7] (fun k i => ∃ j : Nat, j ≤ n ∧ i = .int .i64 ((j : Int) + 1) ∧ k = .int .i64 ((frees l j).length : Nat)) (fun _ i => n + 1 - (intOf i).toNat)
  case atStart => exact ⟨0, Nat.zero_le _, by go_num, rfl⟩
  case round =>
    obtain ⟨j, hj, rfl, rfl⟩ := hrel
    have hfl := frees_length_le l j
    have hsucc := frees_succ l j
    generalize hgf : (frees l j) = f at *
    have Hs := Lib.hid hsucc
    have Hg := Lib.hid hgf
    clear hsucc hgf
    by_cases hlt : j < n
    · have ht := taken_any v l ((j : Int) + 1) w HR.out HW.out (by omega) (by omega) hl
      rw [show ((j : Int) + 1 - 1).toNat = j by omega] at ht
      have HT := Lib.hid ht
      clear ht
      go_wp2_with fail
      refine HT.out.mono ?_
      rintro e w' ⟨rfl, rfl⟩
      cases hb : bitOf l j with
      | true =>
        have Hb := Lib.hid hb
        clear hb
        go_wp2
        go_round
        case rel => exact ⟨j + 1, by omega, by go_num, by rw [Hs.out, if_pos Hb.out]⟩
        case measure => simp [intOf]; omega
      | false =>
        have Hb := Lib.hid hb
        clear hb
        go_wp2
        go_round
        case rel => exact ⟨j + 1, by omega, by go_num, by rw [Hs.out, if_neg (by rw [Hb.out]; decide), List.length_append]; go_num⟩
        case measure => simp [intOf]; omega
    · obtain rfl : j = n := by omega
      go_wp2
      go_ret2
      exact ⟨congrArg (fun z : Nat => Ending.returned (.tuple #[.int .i64 z, .int .i64 0])) (by rw [Hg.out]), rfl⟩
set_option maxHeartbeats 1000000 in
theorem refFree_no (v : Value) (l : List Nat) (n : Int) (w : World) (h : Rd w v l.length (u64s l)) (hn : ¬ May l n) (hn1 : -9223372036854775808 ≤ n) (hn2 : n ≤ 9223372036854775807) (hl : l.length ≤ 65536) :
    Calls Try.prog 13 #[v, .int .i64 n] w fun e w' => e = .returned (.tuple #[.int .i64 0, .int .i64 2]) ∧ w = w' := by
  have HM := Lib.hid (refMay_no v l n w h hn hn1 hn2 hl)
  clear h hn
  go_enter Try.func13, Try.ntmps13
  go_wp2_with fail
  refine HM.out.mono ?_
  rintro e w' ⟨rfl, rfl⟩
  go_wp2
  go_ret2
  exact ⟨rfl, rfl⟩

/-! ### Take -/
/-- what a call of Take hands back where it takes k numbers -/
def HandsTake (w : World) (l : List Nat) (n k : Nat) (r : Ending) (w' : World) : Prop :=
  ∃ A c B d, r = .returned (.tuple #[.slice A k c, .slice B l.length d, .int .i64 0]) ∧ w'.ownsRow w.heap.size 3 1 (.slice A k c) k (i64s (nums (takes l n k))) ∧
    w'.ownsRow w.heap.size 38 1 (.slice B l.length d) l.length (u64s (setAll l (takes l n k))) ∧ Below w.heap.size w w'

set_option maxHeartbeats 1000000 in
theorem refTake_arg (v : Value) (l : List Nat) (n k : Int) (w : World) (h : Rd w v l.length (u64s l)) (hw : ∀ x ∈ l, x < 2 ^ 64) (hn : ¬ (May l n ∧ 0 ≤ k)) (hn1 : -9223372036854775808 ≤ n) (hn2 : n ≤ 9223372036854775807) (hl : l.length ≤ 65536) :
    Calls Try.prog 11 #[v, .int .i64 n, .int .i64 k] w fun e w' => e = .returned (.tuple #[.slice none 0 0, .slice none 0 0, .int .i64 2]) ∧ w = w' := by
  by_cases hm : May l n
  · have hk : decide (k < 0) = true := by simp; exact Int.not_le.1 fun hk => hn ⟨hm, hk⟩
    obtain ⟨m, rfl⟩ := Int.eq_ofNat_of_zero_le hm.1
    have HF := Lib.hid (refFree_yes v l m w h hw (by have := hm.2; omega) hl)
    clear h hw hn hm
    go_enter Try.func11, Try.ntmps11
    go_wp2_with fail
    refine HF.out.mono ?_
    rintro e w' ⟨rfl, rfl⟩
    go_wp2
    go_ret3
    exact ⟨rfl, rfl⟩
  · have HF := Lib.hid (refFree_no v l n w h hm hn1 hn2 hl)
    clear h hw hn hm
    go_enter Try.func11, Try.ntmps11
    go_wp2_with fail
    refine HF.out.mono ?_
    rintro e w' ⟨rfl, rfl⟩
    go_wp2
    go_ret3
    exact ⟨rfl, rfl⟩
set_option maxHeartbeats 1000000 in
theorem refTake_full (v : Value) (l : List Nat) (n k : Nat) (w : World) (h : Rd w v l.length (u64s l)) (hw : ∀ x ∈ l, x < 2 ^ 64) (hn : n ≤ 64 * l.length) (hk : (frees l n).length < k) (hl : l.length ≤ 65536) :
    Calls Try.prog 11 #[v, .int .i64 n, .int .i64 k] w fun e w' => e = .returned (.tuple #[.slice none 0 0, .slice none 0 0, .int .i64 4]) ∧ w = w' := by
  have HF := Lib.hid (refFree_yes v l n w h hw hn hl)
  have hk0 : decide ((k : Int) < 0) = false := by simp
  generalize hgf : frees l n = f at *
  clear h hw hgf
  go_enter Try.func11, Try.ntmps11
  go_wp2_with fail
  refine HF.out.mono ?_
  rintro e w' ⟨rfl, rfl⟩
  go_wp2
  go_ret3
  exact ⟨rfl, rfl⟩

set_option maxHeartbeats 4000000 in
theorem refTake_yes (v : Value) (l : List Nat) (n k : Nat) (w : World) (h : Rd w v l.length (u64s l)) (hw : ∀ x ∈ l, x < 2 ^ 64) (hn : n ≤ 64 * l.length) (hk : k ≤ (frees l n).length) (hl : l.length ≤ 65536) :
    Calls Try.prog 11 #[v, .int .i64 n, .int .i64 k] w (HandsTake w l n k) := by
  have HR := Lib.hid h
  have HW := Lib.hid hw
  have HF := Lib.hid (refFree_yes v l n w h hw hn hl)
  have hk0 : decide ((k : Int) < 0) = false := by simp
  have hkn : k ≤ n := Nat.le_trans hk (frees_length_le l n)
  have Hk := Lib.hid hk
  have hki : ((frees l n).length : Int) ≥ (k : Int) := by omega
  obtain ⟨A, c, rfl, _, _, _⟩ := h
  generalize hgf : (frees l n).length = fl at *
  have HgF := Lib.hid hgf
  clear hw hk hgf
  go_enter Try.func11, Try.ntmps11
  go_wp2_with fail
  refine HF.out.mono ?_
  rintro e w' ⟨rfl, rfl⟩
  go_wp2_with (at_builtin; refine copy64 rfl (.const (.slice none 0 0)) (.tmp 31) rfl rfl _ l _ rfl rfl HR.out (by omega) ?_; intro A1 c1 w1 hown1 hb1)
  go_loopw [11, 12, 13] (fun row got i wr => ∃ j : Nat, j ≤ n ∧ i = .int .i64 ((j : Int) + 1) ∧ (∃ A c, row = .slice A l.length c ∧ wr.ownsRow w.heap.size 38 1 (.slice A l.length c) l.length (u64s (setAll l (takes l j k)))) ∧
      (∃ B d m, got = .slice B m d ∧ m = (takes l j k).length ∧ wr.ownsRow w.heap.size 3 1 (.slice B m d) m (i64s (nums (takes l j k)))) ∧ Below w.heap.size w wr) (fun _ _ i _ => n + 1 - (intOf i).toNat)
  case atStart => exact ⟨0, Nat.zero_le _, by go_num, ⟨A1, c1, rfl, by rw [takes_zero]; exact hown1⟩, ⟨none, 0, 0, rfl, by rw [takes_zero]; rfl, by rw [takes_zero]; exact World.ownsRow_nil _ _ _ _⟩, hb1⟩
  case round =>
    obtain ⟨j, hj, rfl, ⟨A2, c2, rfl, hrow⟩, ⟨B2, d2, m, rfl, hm, hgot⟩, hbel⟩ := hrel
    clear hown1 hb1
    have hml : m ≤ k := by rw [hm, takes_length]; omega
    have hml2 : m ≤ j := by rw [hm, takes_length]; have := frees_length_le l j; omega
    have hend : ¬ (j < n ∧ m < k) → takes l j k = takes l n k ∧ m = k := by
      intro hne
      by_cases h1 : m < k
      · obtain rfl : j = n := by omega
        refine ⟨rfl, ?_⟩
        rw [takes_length] at hm
        have := Hk.out
        have hf2 := HgF.out
        omega
      · refine ⟨(takes_full (by omega) hj).symm, by omega⟩
    have hsf := @takes_succ_free l j k
    have hst := @takes_succ_taken l j k
    rw [← hm] at hsf
    have hrl := setAll_length l (takes l j k)
    have hrw := setAll_wd HW.out (takes l j k)
    have hss := setAll_snoc l (takes l j k)
    have hns := nums_snoc (takes l j k)
    generalize hgT : takes l j k = T at *
    generalize hgR : setAll l T = R at *
    have Hm := Lib.hid hm
    have Hend := Lib.hid hend
    have Hsf := Lib.hid hsf
    have Hst := Lib.hid hst
    have Hrl := Lib.hid hrl
    have Hrw := Lib.hid hrw
    have Hss := Lib.hid hss
    have Hns := Lib.hid hns
    have HgR := Lib.hid hgR
    have HgT := Lib.hid hgT
    have Hrow := Lib.hid hrow
    have Hgot := Lib.hid hgot
    have Hbel := Lib.hid hbel
    clear hm hend hsf hst hrl hrw hss hns hgR hgT hrow hgot hbel
    by_cases hgo : j < n ∧ m < k
    · obtain ⟨hlt, hmk⟩ := hgo
      have hd : decide ((m : Int) < (k : Int)) = true := by simp; omega
      have ht := fun W hW => taken_any (.slice A l.length c) l ((j : Int) + 1) W hW HW.out (by omega) (by omega) hl
      rw [show ((j : Int) + 1 - 1).toNat = j by omega] at ht
      have HT := Lib.hid ht
      clear ht
      go_wp2_with fail
      refine (HT.out _ (HR.out.below Hbel.out)).mono ?_
      rintro e w' ⟨rfl, rfl⟩
      cases hb : bitOf l j with
      | true =>
        have Hb := Lib.hid hb
        clear hb
        go_wp2
        go_roundw
        case rel => exact ⟨j + 1, by omega, by go_num, ⟨A2, c2, rfl, by rw [Hst.out Hb.out, HgR.out]; exact Hrow.out⟩, ⟨B2, d2, m, rfl, by rw [Hst.out Hb.out]; exact Hm.out, by rw [Hst.out Hb.out]; exact Hgot.out⟩, Hbel.out⟩
        case measure => simp [intOf]; omega
      | false =>
        have Hb := Lib.hid hb
        clear hb
        go_wp2_with (first
          | (at_builtin; refine push_int rfl (.tmp 48) (.tmp 50) rfl w.heap.size (.slice B2 m d2) (nums T) m rfl (Hgot.out.alloc _) _ ((j : Int) + 1) rfl (Rd.one _ _ _) (by omega) (by have := Hbel.out.size; simp; omega) ?_; intro A3 c3 w3 hown3 hg3))
        have hw3 : Below w.heap.size w w3 := below_grown (Hbel.out.alloc Hbel.out.size _) (Hgot.out.alloc _) (Nat.le_refl _) (by have := Hbel.out.size; simp; omega) hg3
        have hr3 : w3.ownsRow w.heap.size 38 1 (.slice A2 l.length c2) l.length (u64s R) := own_grown (Hrow.out.alloc _) (Hgot.out.alloc _) (by decide) hg3
        refine (refWith_yes _ R (j : Int) true _ (by rw [Hrl.out]; exact Rd.of_own hr3) Hrw.out (by unfold Idx; rw [Hrl.out]; omega) (by rw [Hrl.out]; exact hl)).mono ?_
        rintro e w4 ⟨A4, c4, rfl, hown4, hb4⟩
        rw [Hrl.out, Int.toNat_natCast] at hown4
        rw [Hrl.out]
        have hw4 := below_then hw3 hb4
        have hg4 := own_below hown3 hb4
        clear hown3 hg3 hr3
        go_wp2
        go_roundw
        case rel =>
          have e1 := Hsf.out hmk Hb.out
          refine ⟨j + 1, by omega, by go_num, ⟨A4, c4, rfl, ?_⟩, ⟨A3, c3, m + 1, rfl, by rw [e1, List.length_append, ← Hm.out]; rfl, ?_⟩, hw4⟩
          · rw [e1, Hss.out]
            exact own_mono hown4 hw3.size
          · rw [e1, Hns.out]
            exact hg4
        case measure => simp [intOf]; omega
    · obtain ⟨e1, e2⟩ := Hend.out hgo
      subst e2
      have He1 := Lib.hid e1
      clear e1
      rcases (show j < n ∨ j = n by omega) with hlt | rfl
      · have hd : decide ((m : Int) < (m : Int)) = false := by simp
        clear hgo
        go_wp2
        go_ret3
        exact ⟨B2, d2, A2, c2, rfl, by rw [← He1.out]; exact Hgot.out, by rw [← He1.out, HgR.out]; exact Hrow.out, Hbel.out⟩
      · clear hgo
        go_wp2
        go_ret3
        exact ⟨B2, d2, A2, c2, rfl, by rw [← He1.out]; exact Hgot.out, by rw [← He1.out, HgR.out]; exact Hrow.out, Hbel.out⟩
end Go.Proofs.Yteojodddfanepaa
