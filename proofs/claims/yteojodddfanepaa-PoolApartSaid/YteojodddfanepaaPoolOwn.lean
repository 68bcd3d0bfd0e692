/- pool.may, own, Drop, Turned: what they return. -/
import Derived.Test.YteojodddfanepaaPoolRefB
import Derived.Test.YteojodddfanepaaWordHas
import Derived.StillTailTactics
namespace Go.Proofs.Yteojodddfanepaa
open Go.RowKit
set_option linter.unusedVariables false
attribute [local go_sem ↓] run_least2

set_option maxHeartbeats 1000000 in
theorem may_yes (v : Value) (l : List Nat) (n : Int) (w : World) (h : Rd w v l.length (u64s l)) (hn : May l n) (hl : l.length ≤ 65536) :
    Calls Try.prog 20 #[v, .int .i64 n] w fun e w' => e = .returned (.bool true) ∧ w = w' := by
  obtain ⟨A, c, rfl, h1, h2, h3⟩ := h
  obtain ⟨n1, n2⟩ := hn
  have hd : decide (n ≥ 0) = true := by simpa using n1
  have hd2 : decide (n ≤ 64 * (l.length : Int)) = true := by simpa using n2
  clear h3
  go_enter Try.func20, Try.ntmps20
  go_wp2
  go_ret
  exact ⟨ret_bool (by first | rfl | exact hd2), rfl⟩
set_option maxHeartbeats 1000000 in
theorem may_no (v : Value) (l : List Nat) (n : Int) (w : World) (h : Rd w v l.length (u64s l)) (hn : ¬ May l n) (hn1 : -9223372036854775808 ≤ n) (hn2 : n ≤ 9223372036854775807) (hl : l.length ≤ 65536) :
    Calls Try.prog 20 #[v, .int .i64 n] w fun e w' => e = .returned (.bool false) ∧ w = w' := by
  obtain ⟨A, c, rfl, h1, h2, h3⟩ := h
  clear h3
  by_cases h0 : 0 ≤ n
  · have hd : decide (n ≥ 0) = true := by simpa using h0
    have hd2 : decide (n ≤ 64 * (l.length : Int)) = false := by unfold May at hn; simp; omega
    clear hn
    go_enter Try.func20, Try.ntmps20
    go_wp2
    go_ret
    exact ⟨ret_bool (by first | rfl | exact hd2), rfl⟩
  · have hd : decide (n ≥ 0) = false := by simpa using h0
    clear hn
    go_enter Try.func20, Try.ntmps20
    go_wp2
    go_ret
    exact ⟨ret_bool (by first | rfl | (simp; omega)), rfl⟩

set_option maxHeartbeats 1000000 in
theorem own_any (v : Value) (l : List Nat) (w : World) (h : Rd w v l.length (u64s l)) (hl : l.length ≤ 65536) :
    Calls Try.prog 21 #[v] w (Hands w 38 1 l.length (u64s l)) := by
  have HR := Lib.hid h
  obtain ⟨A, c, rfl, h1, h2, h3⟩ := h
  clear h3
  obtain ⟨i0, hi, hz0, hz1, hz2⟩ := info_parts info64
  go_enter Try.func21, Try.ntmps21
  go_wp2_with (first
    | (at_make; refine wpList_make_full _ rfl (.tmp 4) (.tmp 4) 22 rfl w.heap.size 38 i0 _ 1 Try.underlying22 hi hz0 hz1 .i64 .i64 _ _ l.length rfl rfl rfl rfl (by rw [hz2]; omega) (by unfold maxLen; omega) (Nat.le_refl _) ?_; intro w1 hown1 hg1; have hb1 : Below w.heap.size w w1 := (Below.refl _ _).grown hg1 (Nat.le_refl _) (by intro k h; cases h); obtain ⟨w2, hrun, hown2, hb2⟩ := run_over64 3 w.heap.size w.heap.size l.length w w1 _ l _ hown1 rfl (HR.out.below hb1) hb1 (Nat.le_refl _); clear hown1 hg1))
  go_ret
  exact ⟨_, _, rfl, hown2, hb2⟩

/-! ### Turned -/
set_option maxHeartbeats 2000000 in
theorem turned_any (a b : Value) (l m : List Nat) (w : World) (ha : Rd w a l.length (u64s l)) (hb : Rd w b m.length (u64s m)) (hl : l.length ≤ 65536) (hm : m.length ≤ 65536) :
    Calls Try.prog 16 #[a, b] w (Hands w 3 1 (turned l m).length (i64s (ints (turned l m)))) := by
  have HA := Lib.hid ha
  have HB := Lib.hid hb
  obtain ⟨A, c, rfl, _, _, _⟩ := ha
  obtain ⟨B, d, rfl, _, _, _⟩ := hb
  have hle := least2_nat l.length m.length (min l.length m.length) rfl
  have htu : turnedTo l m (min l.length m.length) = turned l m := rfl
  have hml : min l.length m.length ≤ l.length := by omega
  have hmm : min l.length m.length ≤ m.length := by omega
  generalize min l.length m.length = mn at *
  have Htu := Lib.hid htu
  clear htu
  go_enter Try.func16, Try.ntmps16
  go_wp2
  go_loopw [4, 11] (fun out i wr => ∃ j : Nat, j ≤ mn ∧ i = .int .i64 (j : Int) ∧
      (∃ A d n, out = .slice A n d ∧ n = (turnedTo l m j).length ∧ wr.ownsRow w.heap.size 3 1 (.slice A n d) n (i64s (ints (turnedTo l m j)))) ∧ Below w.heap.size w wr) (fun _ i _ => mn - (intOf i).toNat)
  case atStart => exact ⟨0, Nat.zero_le _, rfl, ⟨none, 0, 0, rfl, rfl, World.ownsRow_nil _ _ _ _⟩, Below.refl _ _⟩
  case round =>
    obtain ⟨j, hj, rfl, ⟨A2, d2, n, rfl, hn, hrow⟩, hbel⟩ := hrel
    have hnj := turnedTo_len l m j
    rw [← hn] at hnj
    by_cases hlt : j < mn
    · have h1 : j < l.length := by omega
      have h2 : j < m.length := by omega
      obtain ⟨b1, o1, rfl, hc1⟩ := (HA.out.below hbel).at_ (u64s_at h1)
      obtain ⟨b2, o2, rfl, hc2⟩ := (HB.out.below hbel).at_ (u64s_at h2)
      have hse := @turnedTo_succ_eq l m j
      have hsn := @turnedTo_succ_ne l m j
      have hin := ints_snoc (turnedTo l m j) j
      rw [getD_at h1, getD_at h2] at hse hsn
      generalize hgT : turnedTo l m j = T at *
      have Hgt := Lib.hid hgT
      have Hn := Lib.hid hn
      have Hse := Lib.hid hse
      have Hsn := Lib.hid hsn
      have Hin := Lib.hid hin
      have Hrow := Lib.hid hrow
      have Hbel := Lib.hid hbel
      clear hse hsn hin hrow hbel hgT hn
      by_cases he : l[j] = m[j]
      · have He := Lib.hid he
        rw [← he] at hc2
        clear he
        go_wp2
        go_quiet (fail)
        go_wp2
        go_roundw
        case rel => exact ⟨j + 1, by omega, by go_num, ⟨A2, d2, n, rfl, by rw [Hse.out He.out]; exact Hn.out, by rw [Hse.out He.out]; exact Hrow.out⟩, below_drewN Hbel.out _⟩
        case measure => simp [intOf]; omega
      · have hne' : (((l[j] : Nat) : Int) != ((m[j] : Nat) : Int)) = true := by simp only [bne_iff_ne, ne_eq]; omega
        have He := Lib.hid he
        clear he
        go_wp2
        go_quiet (fail)
        go_wp2_with (first
          | (at_builtin; refine push_int rfl (.tmp 23) (.tmp 25) rfl w.heap.size (.slice A2 n d2) (ints T) n rfl (Hrow.out.alloc _) _ (j : Int) rfl (Rd.one _ _ _) (by omega) (by have := Hbel.out.size; simp; omega) ?_; intro A3 c3 w3 hown3 hg3))
        have hw3 : Below w.heap.size w w3 := below_grown ((below_drewN Hbel.out _).alloc Hbel.out.size _) (Hrow.out.alloc _) (Nat.le_refl _) (by have := Hbel.out.size; simp; omega) hg3
        go_roundw
        case rel => exact ⟨j + 1, by omega, by go_num, ⟨A3, c3, n + 1, rfl, by rw [Hsn.out He.out, List.length_append, ← Hn.out]; rfl, by rw [Hsn.out He.out, Hin.out]; exact hown3⟩, hw3⟩
        case measure => simp [intOf]; omega
    · obtain rfl : j = mn := by omega
      rw [Htu.out] at hn hrow
      have Hn := Lib.hid hn
      have Hrow := Lib.hid hrow
      have Hbel := Lib.hid hbel
      clear hrow hbel hn
      go_wp2
      go_ret
      exact ⟨A2, d2, by rw [← Hn.out]; rfl, by rw [← Hn.out]; exact Hrow.out, Hbel.out⟩
end Go.Proofs.Yteojodddfanepaa
