/- parcloseref01.Same: whether two rows of words are alike. -/
import Derived.Test.YtdkcghicobakhaaRows
import Derived.Test.YtdkcghicobakhaaMem
import Derived.Deep.QuietTactic
import Derived.BigQuiet
namespace Go.Proofs.Ytdkcghicobakhaa
open Go.RowKit
set_option linter.unusedVariables false

set_option maxRecDepth 100000 in
set_option maxHeartbeats 1000000 in
theorem same_len (a b : Value) (l m : List Nat) (w : World) (ha : Rd w a l.length (u64s l)) (hb : Rd w b m.length (u64s m)) (hl : l.length ≠ m.length) :
    Calls Try.prog 26 #[a, b] w fun e w' => e = .returned (.bool false) ∧ w = w' := by
  obtain ⟨A, c, rfl, h1, h2, h3⟩ := ha
  obtain ⟨B, d, rfl, h4, h5, h6⟩ := hb
  have hn : ((l.length : Int) != (m.length : Int)) = true := by simp; omega
  clear hl h3 h6
  go_enter Try.func26, Try.ntmps26
  go_wp2
  go_ret
  exact ⟨rfl, rfl⟩

/-- alike as far as k -/
def upto (l m : List Nat) (k : Nat) : Prop := ∀ j, j < k → l.getD j 0 = m.getD j 0
theorem upto_succ {l m : List Nat} {k : Nat} (h : upto l m k) (hk : l.getD k 0 = m.getD k 0) : upto l m (k + 1) := by
  intro j hj
  rcases Nat.lt_or_ge j k with h1 | h1
  · exact h j h1
  · obtain rfl : j = k := by omega
    exact hk
theorem upto_all {l m : List Nat} (hl : l.length = m.length) (h : upto l m l.length) : l = m := by
  apply List.ext_getElem hl
  intro i h1 h2
  have := h i h1
  simpa [List.getD, h1, h2] using this

set_option maxRecDepth 100000 in
set_option maxHeartbeats 1000000 in
theorem same_any (a b : Value) (l m : List Nat) (w : World) (ha : Rd w a l.length (u64s l)) (hb : Rd w b m.length (u64s m)) :
    Calls Try.prog 26 #[a, b] w fun e w' => e = .returned (.bool (decide (l = m))) ∧ ∃ n, w' = w.drewN n := by
  by_cases hl : l.length = m.length
  case neg =>
    refine (same_len a b l m w ha hb hl).mono ?_
    rintro e w' ⟨rfl, rfl⟩
    refine ⟨ret_bool ?_, 0, rfl⟩
    have : l ≠ m := fun h => hl (by rw [h])
    simp [this]
  obtain ⟨A, c, rfl, h1, h2, h3⟩ := ha
  obtain ⟨B, d, rfl, h4, h5, h6⟩ := hb
  unfold maxLen at h2 h5
  rw [← hl] at h4 ⊢
  have H := Lib.hid hl
  clear hl
  go_enter Try.func26, Try.ntmps26
  go_wp2
  go_loopw [5] (fun i wr => ∃ k : Nat, k ≤ l.length ∧ i = .int .i64 k ∧ upto l m k ∧ ∃ n, wr = w.drewN n) (fun i _ => l.length - (intOf i).toNat)
  case atStart => exact ⟨0, by omega, rfl, fun j h => absurd h (by omega), 0, rfl⟩
  case round =>
    obtain ⟨k, hk, rfl, hu, n, rfl⟩ := hrel
    by_cases hlt : k < l.length
    · have hltm : k < m.length := by rw [← H.out]; exact hlt
      obtain ⟨b1, o1, rfl, hc1⟩ := h3 k _ (u64s_at hlt)
      obtain ⟨b2, o2, rfl, hc2⟩ := h6 k _ (u64s_at hltm)
      have hlt' : (k : Int) < (l.length : Int) := by omega
      have Hu := Lib.hid hu
      clear hu h3 h6
      by_cases he : l[k] = m[k]
      · have Hk : Hid (l.getD k 0 = m.getD k 0) := by
          show l.getD k 0 = m.getD k 0
          simpa [List.getD, hlt, hltm] using he
        rw [← he] at hc2
        clear he
        go_wp2
        go_quiet (fail)
        go_wp2
        go_roundw
        case rel => exact ⟨k + 1, by omega, by go_num, upto_succ Hu.out Hk.out, _, rfl⟩
        case measure => simp [intOf]; omega
      · have hne : (((l[k] : Nat) : Int) != ((m[k] : Nat) : Int)) = true := by simp; omega
        have Hk : Hid (l ≠ m) := by
          show l ≠ m
          intro h; subst h; exact he rfl
        clear he
        go_wp2
        go_quiet (fail)
        go_wp2
        go_ret
        exact ⟨ret_bool (by simp [Hk.out]), _, World.drewN_drewN _ _ _⟩
    · obtain rfl : k = l.length := by omega
      have hx : l = m := upto_all H.out hu
      have Hx := Lib.hid hx
      clear hx hu h3 h6 H
      go_wp2
      go_ret
      exact ⟨ret_bool (by simp [Hx.out]), n, rfl⟩
end Go.Proofs.Ytdkcghicobakhaa
