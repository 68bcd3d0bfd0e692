/- The walk of the law SumGoes. -/
import Derived.Test.YtlhomllcklfieaaSumAlive
namespace Go.Proofs.Ytlhomllcklfieaa
open Go.RowKit
set_option linter.unusedVariables false

theorem bs_add (s t : ByteArray) : bs (s ++ t) = bs s ++ bs t := by
  unfold bs
  rw [ByteArray.data_append, Array.toList_append, List.map_append]
theorem size_add (s t : ByteArray) : (s ++ t).size = s.size + t.size := ByteArray.size_append

set_option maxHeartbeats 2000000 in
theorem sumGoes_walk (w : World) (s : ByteArray) (hs : s.size ≤ maxLen) (t : ByteArray) (ht : t.size ≤ maxLen) (c : Nat) (hc : c < 4294967296) (v : Value) (l : List Nat) (hl : Wd l) (h : Rd w v l.length (u64s l)) :
    Calls Try.prog 6 #[.string s, .string t, .int .u32 c, v] w fun e w' => e = .returned (.bool true) ∧ Below w.heap.size w w' := by
  have hR := h
  obtain ⟨A, cp, rfl, h1, h2, h3⟩ := h
  have Hs := Lib.hid hs
  have Ht := Lib.hid ht
  have HR := Lib.hid hR
  have HW := Lib.hid hl
  clear h3 hR hl
  unfold maxLen at hs ht h2
  by_cases hb1 : 1024 < s.size
  · have hb' : (1024 : Int) < (s.size : Int) := by omega
    go_enter Try.func6, Try.ntmps6
    go_wp2_with (go_at_call 8; refine (alive_any _).mono ?_; rintro e w1 ⟨rfl, hb1⟩)
    go_ret
    exact ⟨rfl, hb1⟩
  have hb1' : (s.size : Int) ≤ 1024 := by omega
  by_cases hb2 : 1024 < t.size
  · have hb' : decide ((1024 : Int) < (t.size : Int)) = true := by simp; omega
    go_enter Try.func6, Try.ntmps6
    go_wp2_with (go_at_call 8; refine (alive_any _).mono ?_; rintro e w1 ⟨rfl, hb1⟩)
    go_ret
    exact ⟨rfl, hb1⟩
  have hb2' : decide ((1024 : Int) < (t.size : Int)) = false := by simp; omega
  by_cases hb3 : 100 < l.length
  · have hb' : decide ((100 : Int) < (l.length : Int)) = true := by simp; omega
    go_enter Try.func6, Try.ntmps6
    go_wp2_with (go_at_call 8; refine (alive_any _).mono ?_; rintro e w1 ⟨rfl, hb1⟩)
    go_ret
    exact ⟨rfl, hb1⟩
  have hb3' : decide ((100 : Int) < (l.length : Int)) = false := by simp; omega
  have hlb : l.length ≤ 100 := by omega
  have Hst := Lib.hid (show (s ++ t).size ≤ maxLen by rw [size_add]; unfold maxLen; omega)
  have Hof := Lib.hid (more_lt (c := 0) (bs := bs s) (by decide) (bs_lt s))
  have Hmc := Lib.hid (more_lt (c := c) (bs := bs s) hc (bs_lt s))
  have hcat := fun (W : World) => run_string_add_sum (P := Try.prog) W s t (by omega)
  clear hb1 hb2 hb3
  go_enter Try.func6, Try.ntmps6
  go_wp2_with fail
  refine (Of_any s Hs.out _).mono ?_
  rintro e w1 ⟨rfl, rfl⟩
  go_wp2_with fail
  refine (More_any _ t Hof.out Ht.out _).mono ?_
  rintro e w1 ⟨rfl, rfl⟩
  rw [← more_append, ← bs_add]
  go_wp2_with fail
  refine (Of_any (s ++ t) Hst.out _).mono ?_
  rintro e w1 ⟨rfl, rfl⟩
  go_wp2_with fail
  refine (More_any c s hc Hs.out _).mono ?_
  rintro e w1 ⟨rfl, rfl⟩
  go_wp2_with fail
  refine (More_any _ t Hmc.out Ht.out _).mono ?_
  rintro e w1 ⟨rfl, rfl⟩
  rw [← more_append, ← bs_add]
  go_wp2_with fail
  refine (More_any c (s ++ t) hc Hst.out _).mono ?_
  rintro e w1 ⟨rfl, rfl⟩
  go_wp2_with fail
  refine (More_any c _ hc (by decide) _).mono ?_
  rintro e w1 ⟨rfl, rfl⟩
  rw [show bs ⟨#[]⟩ = [] by rfl, more_nil]
  go_wp2_with (at_builtin; refine copy64 rfl (.const (.slice none 0 0)) (.tmp 56) rfl rfl _ l _ rfl rfl HR.out (by omega) ?_; intro A1 c1 w1 hown1 hw1; have HR1 := Lib.hid (Rd.of_own hown1); clear hown1)
  refine (Seal_any _ l _ HR1.out HW.out (by omega)).mono ?_
  rintro e w2 ⟨A2, c2, rfl, hown2, hb2⟩
  have hw2 := below_then hw1 hb2
  have HR2 := Lib.hid (Rd.of_own hown2)
  clear hown2
  go_wp2_with fail
  refine (Seal_n _ (sealed l) (l.length + 1) (sealed_len l) _ HR2.out (sealed_wd HW.out) (by omega)).mono ?_
  rintro e w3 ⟨A3, c3, rfl, hown3, hb3⟩
  have hw3 := below_then hw2 hb3
  have HR3 := Lib.hid (Rd.of_own hown3)
  clear hown3
  go_wp2_with fail
  refine (Open_yes _ (sealed l) (l.length + 1) (sealed_len l) _ HR3.out (sealed_wd HW.out) (by omega)).mono ?_
  rintro e w4 ⟨A4, c4, rfl, hown4, hb4⟩
  have hw4 := below_then hw3 hb4
  have HR4 := Lib.hid (Rd.of_own hown4)
  clear hown4
  go_wp2_with fail
  refine (Open_yes _ l l.length rfl _ HR4.out HW.out (by omega)).mono ?_
  rintro e w5 ⟨A5, c5, rfl, hown5, hb5⟩
  have hw5 := below_then hw4 hb5
  have HR5 := Lib.hid (Rd.of_own hown5)
  clear hown5
  go_wp2_with fail
  refine (same_any _ _ l l _ HR5.out (HR.out.below hw5)).mono ?_
  rintro e w6 ⟨rfl, n, rfl⟩
  rw [decide_eq_true (rfl : l = l)]
  go_wp2_with (go_at_call 8; refine (alive_any _).mono ?_; rintro e w7 ⟨rfl, hb7⟩)
  go_ret
  exact ⟨rfl, below_then (below_drewN hw5 _) hb7⟩
end Go.Proofs.Ytlhomllcklfieaa
