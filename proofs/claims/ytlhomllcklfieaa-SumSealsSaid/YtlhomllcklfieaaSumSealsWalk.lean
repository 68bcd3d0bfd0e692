/- The walk of the law SumSeals. -/
import Derived.Test.YtlhomllcklfieaaSumAlive
namespace Go.Proofs.Ytlhomllcklfieaa
open Go.RowKit
set_option linter.unusedVariables false

/-- where the law's guard lets a row go -/
theorem words_big {l : List Nat} (hb : 100 < l.length) : (100 : Int) < (l.length : Int) := by omega

set_option maxHeartbeats 2000000 in
theorem sumSeals_walk (w : World) (v : Value) (l : List Nat) (hl : Wd l) (h : Rd w v l.length (u64s l)) :
    Calls Try.prog 4 #[v] w fun e w' => e = .returned (.bool true) ∧ Below w.heap.size w w' := by
  have hR := h
  obtain ⟨A, cp, rfl, h1, h2, h3⟩ := h
  have HR := Lib.hid hR
  have HW := Lib.hid hl
  clear h3 hR hl
  unfold maxLen at h2
  by_cases hb : 100 < l.length
  · have hb' := words_big hb
    go_enter Try.func4, Try.ntmps4
    go_wp2_with (go_at_call 8; refine (alive_any _).mono ?_; rintro e w1 ⟨rfl, hb1⟩)
    go_ret
    exact ⟨rfl, hb1⟩
  have hlb : l.length ≤ 100 := by omega
  clear hb
  by_cases ho : opens l = true
  · have Ho := Lib.hid ho
    clear ho
    go_enter Try.func4, Try.ntmps4
    go_wp2_with (at_builtin; refine copy64 rfl (.const (.slice none 0 0)) (.tmp 12) rfl rfl _ l _ rfl rfl HR.out (by omega) ?_; intro A1 c1 w1 hown1 hw1; have HR1 := Lib.hid (Rd.of_own hown1); clear hown1)
    refine ((Open_any _ l _ HR1.out HW.out (by omega)).mono (fun e w' hh => HandsOpen.yes hh Ho.out)).mono ?_
    rintro e w2 ⟨A2, c2, rfl, hown2, hb2⟩
    have HO1 := Lib.hid (Rd.of_own hown2)
    have hw2 := below_then hw1 hb2
    have HR2 := Lib.hid (HR1.out.below hb2)
    clear hown2
    go_wp2_with fail
    refine ((refOpen_any _ l _ (HR.out.below hw2) HW.out (by omega)).mono (fun e w' hh => HandsOpen.yes hh Ho.out)).mono ?_
    rintro e w3 ⟨A3, c3, rfl, hown3, hb3⟩
    have HO2 := Lib.hid (Rd.of_own hown3)
    have HO1' := Lib.hid (HO1.out.below hb3)
    have hw3 := below_then hw2 hb3
    have HR3 := Lib.hid (HR2.out.below hb3)
    clear hown3
    go_wp2_with fail
    refine (same_any _ _ l.dropLast l.dropLast _ (by rw [List.length_dropLast]; exact HO1'.out) (by rw [List.length_dropLast]; exact HO2.out)).mono ?_
    rintro e w4 ⟨rfl, n, rfl⟩
    rw [decide_eq_true (rfl : l.dropLast = l.dropLast)]
    go_wp2_with fail
    refine (Seal_any _ l _ (HR3.out.drewN n) HW.out (by omega)).mono ?_
    rintro e w5 ⟨A5, c5, rfl, hown5, hb5⟩
    have hw5 : Below w.heap.size w w5 := below_then (below_drewN hw3 n) hb5
    have HR5 := Lib.hid ((HR3.out.drewN n).below hb5)
    have HS5 := Lib.hid (Rd.of_own hown5)
    clear hown5
    go_wp2_with fail
    refine (refSeal_any _ l _ (HR.out.below hw5) HW.out (by omega)).mono ?_
    rintro e w6 ⟨A6, c6, rfl, hown6, hb6⟩
    have hw6 := below_then hw5 hb6
    have HR6 := Lib.hid (HR5.out.below hb6)
    have HS5' := Lib.hid (HS5.out.below hb6)
    have HS6 := Lib.hid (Rd.of_own hown6)
    clear hown6
    go_wp2_with fail
    refine (same_any _ _ (sealed l) (sealed l) _ (by rw [sealed_len]; exact HS5'.out) (by rw [sealed_len]; exact HS6.out)).mono ?_
    rintro e w7 ⟨rfl, n7, rfl⟩
    rw [decide_eq_true (rfl : sealed l = sealed l)]
    go_wp2_with fail
    refine (same_any _ _ l l _ (HR6.out.drewN n7) ((HR.out.below hw6).drewN n7)).mono ?_
    rintro e w8 ⟨rfl, n8, rfl⟩
    rw [decide_eq_true (rfl : l = l)]
    go_wp2_with (go_at_call 8; refine (alive_any _).mono ?_; rintro e w9 ⟨rfl, hb9⟩)
    go_ret
    exact ⟨rfl, below_then (below_drewN hw6 _) hb9⟩
  · have Ho := Lib.hid ho
    clear ho
    go_enter Try.func4, Try.ntmps4
    go_wp2_with (at_builtin; refine copy64 rfl (.const (.slice none 0 0)) (.tmp 12) rfl rfl _ l _ rfl rfl HR.out (by omega) ?_; intro A1 c1 w1 hown1 hw1; have HR1 := Lib.hid (Rd.of_own hown1); clear hown1)
    refine ((Open_any _ l _ HR1.out HW.out (by omega)).mono (fun e w' hh => HandsOpen.no hh Ho.out)).mono ?_
    rintro e w2 ⟨rfl, hb2⟩
    have hw2 := below_then hw1 hb2
    have HR2 := Lib.hid (HR1.out.below hb2)
    go_wp2_with fail
    refine ((refOpen_any _ l _ (HR.out.below hw2) HW.out (by omega)).mono (fun e w' hh => HandsOpen.no hh Ho.out)).mono ?_
    rintro e w3 ⟨rfl, hb3⟩
    have hw3 := below_then hw2 hb3
    have HR3 := Lib.hid (HR2.out.below hb3)
    go_wp2_with fail
    refine (same_any _ _ [] [] _ (Rd.nil _) (Rd.nil _)).mono ?_
    rintro e w4 ⟨rfl, n, rfl⟩
    rw [decide_eq_true (rfl : ([] : List Nat) = [])]
    go_wp2_with fail
    refine (Seal_any _ l _ (HR3.out.drewN n) HW.out (by omega)).mono ?_
    rintro e w5 ⟨A5, c5, rfl, hown5, hb5⟩
    have hw5 : Below w.heap.size w w5 := below_then (below_drewN hw3 n) hb5
    have HR5 := Lib.hid ((HR3.out.drewN n).below hb5)
    have HS5 := Lib.hid (Rd.of_own hown5)
    clear hown5
    go_wp2_with fail
    refine (refSeal_any _ l _ (HR.out.below hw5) HW.out (by omega)).mono ?_
    rintro e w6 ⟨A6, c6, rfl, hown6, hb6⟩
    have hw6 := below_then hw5 hb6
    have HR6 := Lib.hid (HR5.out.below hb6)
    have HS5' := Lib.hid (HS5.out.below hb6)
    have HS6 := Lib.hid (Rd.of_own hown6)
    clear hown6
    go_wp2_with fail
    refine (same_any _ _ (sealed l) (sealed l) _ (by rw [sealed_len]; exact HS5'.out) (by rw [sealed_len]; exact HS6.out)).mono ?_
    rintro e w7 ⟨rfl, n7, rfl⟩
    rw [decide_eq_true (rfl : sealed l = sealed l)]
    go_wp2_with fail
    refine (same_any _ _ l l _ (HR6.out.drewN n7) ((HR.out.below hw6).drewN n7)).mono ?_
    rintro e w8 ⟨rfl, n8, rfl⟩
    rw [decide_eq_true (rfl : l = l)]
    go_wp2_with (go_at_call 8; refine (alive_any _).mono ?_; rintro e w9 ⟨rfl, hb9⟩)
    go_ret
    exact ⟨rfl, below_then (below_drewN hw6 _) hb9⟩
end Go.Proofs.Ytlhomllcklfieaa
