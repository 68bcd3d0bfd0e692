/- The walk of the law SumTells. -/
import Derived.Test.YtlhomllcklfieaaSumAlive
namespace Go.Proofs.Ytlhomllcklfieaa
open Go.RowKit
set_option linter.unusedVariables false

set_option maxHeartbeats 2000000 in
theorem sumTells_walk (w : World) (s : ByteArray) (hs : s.size ≤ maxLen) (c : Nat) (hc : c < 4294967296) (v : Value) (l : List Nat) (hl : Wd l) (h : Rd w v l.length (u64s l)) :
    Calls Try.prog 3 #[.string s, .int .u32 c, v] w fun e w' => e = .returned (.bool true) ∧ Below w.heap.size w w' := by
  have hR := h
  obtain ⟨A, cp, rfl, h1, h2, h3⟩ := h
  have Hs := Lib.hid hs
  have HR := Lib.hid hR
  have HW := Lib.hid hl
  clear h3 hR hl
  unfold maxLen at hs h2
  by_cases hbig : 1024 < s.size ∨ 100 < l.length
  · rcases hbig with hb | hb
    · have hb' : (1024 : Int) < (s.size : Int) := by omega
      go_enter Try.func3, Try.ntmps3
      go_wp2_with (go_at_call 8; refine (alive_any _).mono ?_; rintro e w1 ⟨rfl, hb1⟩)
      go_ret
      exact ⟨rfl, hb1⟩
    · by_cases hb2 : 1024 < s.size
      · have hb' : (1024 : Int) < (s.size : Int) := by omega
        go_enter Try.func3, Try.ntmps3
        go_wp2_with (go_at_call 8; refine (alive_any _).mono ?_; rintro e w1 ⟨rfl, hb1⟩)
        go_ret
        exact ⟨rfl, hb1⟩
      · have hb' : (s.size : Int) ≤ 1024 := by omega
        have hb'' : (100 : Int) < (l.length : Int) := by omega
        have hd : decide ((100 : Int) < (l.length : Int)) = true := by simp; omega
        go_enter Try.func3, Try.ntmps3
        go_wp2_with (go_at_call 8; refine (alive_any _).mono ?_; rintro e w1 ⟨rfl, hb1⟩)
        go_ret
        exact ⟨rfl, hb1⟩
  · have hb' : (s.size : Int) ≤ 1024 := by omega
    have hb'' : (l.length : Int) ≤ 100 := by omega
    have hlb : l.length ≤ 100 := by omega
    have hd : decide ((100 : Int) < (l.length : Int)) = false := by simp; omega
    clear hbig
    obtain ⟨i0, hi, hz0, hz1, hz2⟩ := info_parts info64
    go_enter Try.func3, Try.ntmps3
    go_wp2_with fail
    refine (Of_any s Hs.out _).mono ?_
    rintro e w1 ⟨rfl, rfl⟩
    go_wp2_with fail
    refine (refOf_any s Hs.out _).mono ?_
    rintro e w1 ⟨rfl, rfl⟩
    go_wp2_with fail
    refine (More_any c s hc Hs.out _).mono ?_
    rintro e w1 ⟨rfl, rfl⟩
    go_wp2_with fail
    refine (refMore_any c s hc Hs.out _).mono ?_
    rintro e w1 ⟨rfl, rfl⟩
    go_wp2_with (first
      | (at_builtin
         refine wpList_copy_rd rfl (.const (.slice none 0 0)) (.tmp 31) _ rfl 36 i0 _ 1 8 Try.underlying23 hi hz0 hz1 hz2 rfl (by decide) rfl (.slice A l.length cp) l.length (u64s l) rfl HR.out (by rw [u64s_length, Nat.mul_one]) (u64s_one l) (by unfold maxLen; omega) (by omega) ?_
         intro A1 c1 w1 hown1 hb1
         have Hown1 := Lib.hid hown1
         clear hown1))
    refine (Words_any _ l _ (Rd.of_own Hown1.out) HW.out (by omega)).mono ?_
    rintro e w2 ⟨rfl, hb2⟩
    have hw2 := below_then hb1 hb2
    go_wp2_with fail
    refine (refWords_any _ l _ (HR.out.below hw2) HW.out (by omega)).mono ?_
    rintro e w3 ⟨rfl, hb3⟩
    have hw3 := below_then hw2 hb3
    go_wp2_with (go_at_call 8; refine (alive_any _).mono ?_; rintro e w4 ⟨rfl, hb4⟩)
    go_ret
    exact ⟨rfl, below_then hw3 hb4⟩
end Go.Proofs.Ytlhomllcklfieaa
