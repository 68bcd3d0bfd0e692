/- The walk of the law PoolTakes. -/
import Derived.Test.YteojodddfanepaaPoolAlive
namespace Go.Proofs.Yteojodddfanepaa
open Go.RowKit
set_option linter.unusedVariables false

set_option maxHeartbeats 4000000 in
theorem poolTakes_walk (w : World) (v : Value) (l : List Nat) (hl : ∀ x ∈ l, x < 2 ^ 64) (hr : Rd w v l.length (u64s l)) (v' : Value) (m : List Nat) (hm : ∀ x ∈ m, x < 2 ^ 64) (hr' : Rd w v' m.length (u64s m)) (n : Int) (hn1 : -9223372036854775808 ≤ n) (hn2 : n ≤ 9223372036854775807) (k : Int) (hk1 : -9223372036854775808 ≤ k) (hk2 : k ≤ 9223372036854775807) :
    Calls Try.prog 3 #[v, v', .int .i64 n, .int .i64 k] w fun e w' => e = .returned (.bool true) ∧ Below w.heap.size w w' := by
  have HL := Lib.hid (large_any v l w hr)
  have HM := Lib.hid (large_any v' m w hr')
  have HR := Lib.hid hr
  have HR' := Lib.hid hr'
  have HW := Lib.hid hl
  have HW' := Lib.hid hm
  clear hr hr' hl hm
  by_cases h1 : 40 < l.length
  · rw [decide_eq_true h1] at HL
    clear h1
    go_enter Try.func3, Try.ntmps3
    go_wp2_with fail
    refine HL.out.mono ?_
    rintro e w' ⟨rfl, rfl⟩
    go_wp2_with fail
    refine (alive_any _).mono ?_
    rintro e w' ⟨rfl, hb⟩
    have Hb := Lib.hid hb
    clear hb
    go_wp2
    go_ret
    exact ⟨rfl, Hb.out⟩
  · rw [decide_eq_false h1] at HL
    by_cases h2 : 40 < m.length
    · rw [decide_eq_true h2] at HM
      clear h1 h2
      go_enter Try.func3, Try.ntmps3
      go_wp2_with fail
      refine HL.out.mono ?_
      rintro e w' ⟨rfl, rfl⟩
      go_wp2_with fail
      refine HM.out.mono ?_
      rintro e w' ⟨rfl, rfl⟩
      go_wp2_with fail
      refine (alive_any _).mono ?_
      rintro e w' ⟨rfl, hb⟩
      have Hb := Lib.hid hb
      clear hb
      go_wp2
      go_ret
      exact ⟨rfl, Hb.out⟩
    · rw [decide_eq_false h2] at HM
      go_enter Try.func3, Try.ntmps3
      go_wp2_with fail
      refine HL.out.mono ?_
      rintro e w' ⟨rfl, rfl⟩
      go_wp2_with fail
      refine HM.out.mono ?_
      rintro e w' ⟨rfl, rfl⟩
      go_wp2_with (at_builtin; refine copy64 rfl (.const (.slice none 0 0)) (.tmp 27) rfl rfl _ l _ rfl rfl HR.out (by omega) ?_; intro A1 c1 w1 hown1 hb1)
      have Ho1 := Lib.hid (Rd.of_own hown1)
      have Hb1 := Lib.hid hb1
      have Hl1 := Lib.hid (HR.out.below hb1)
      have Hm1 := Lib.hid (HR'.out.below hb1)
      clear hown1 hb1
      refine (Take_gives _ l n k _ Ho1.out HW.out hn1 hn2 hk1 hk2 (by omega)).mono ?_
      rintro e w2 ⟨g2, r2, rfl, hg2, hr2, hb2⟩
      have Hb2 := Lib.hid (below_then Hb1.out hb2)
      have Ho2 := Lib.hid (Ho1.out.below hb2)
      have Hl2 := Lib.hid (Hl1.out.below hb2)
      have Hm2 := Lib.hid (Hm1.out.below hb2)
      have Hg2 := Lib.hid hg2
      have Hr2 := Lib.hid hr2
      clear hg2 hr2 hb2 Hb1 Ho1 Hl1 Hm1
      go_wp2_with fail
      refine (refTake_gives _ l n k _ Hl2.out HW.out hn1 hn2 hk1 hk2 (by omega)).mono ?_
      rintro e w3 ⟨g3, r3, rfl, hg3, hr3, hb3⟩
      have Hb3 := Lib.hid (below_then Hb2.out hb3)
      have Ho3 := Lib.hid (Ho2.out.below hb3)
      have Hl3 := Lib.hid (Hl2.out.below hb3)
      have Hm3 := Lib.hid (Hm2.out.below hb3)
      have Hg3 := Lib.hid (Hg2.out.below hb3)
      have Hr3 := Lib.hid (Hr2.out.below hb3)
      have Hg3' := Lib.hid hg3
      have Hr3' := Lib.hid hr3
      clear hg3 hr3 hb3 Hb2 Ho2 Hl2 Hm2 Hg2 Hr2
      generalize takeOut l n k = T at *
      obtain ⟨tg, tr, te⟩ := T
      dsimp only at *
      go_wp2_with fail
      refine (Free_gives _ l n _ Ho3.out HW.out hn1 hn2 (by omega)).mono ?_
      rintro e w4 ⟨rfl, hb4⟩
      have Hb4 := Lib.hid (below_then Hb3.out hb4)
      have Ho4 := Lib.hid (Ho3.out.below hb4)
      have Hl4 := Lib.hid (Hl3.out.below hb4)
      have Hm4 := Lib.hid (Hm3.out.below hb4)
      have Hg4 := Lib.hid (Hg3.out.below hb4)
      have Hr4 := Lib.hid (Hr3.out.below hb4)
      have Hg4' := Lib.hid (Hg3'.out.below hb4)
      have Hr4' := Lib.hid (Hr3'.out.below hb4)
      clear hb4 Hb3 Ho3 Hl3 Hm3 Hg3 Hr3 Hg3' Hr3'
      go_wp2_with fail
      refine (refFree_gives _ l n _ Hl4.out HW.out hn1 hn2 (by omega)).mono ?_
      rintro e w5 ⟨rfl, rfl⟩
      generalize freeOut l n = fo at *
      obtain ⟨fn, fe⟩ := fo
      dsimp only at *
      have hfn : ((fn : Int) == (fn : Int)) = true := by simp
      have hfe : (fe == fe) = true := by simp
      have hte : (te == te) = true := by simp
      go_wp2_with fail
      refine (sameI_yes _ _ tg _ rfl _ Hg4.out Hg4'.out).mono ?_
      rintro e w6 ⟨rfl, hb6⟩
      have Hb6 := Lib.hid (below_then Hb4.out hb6)
      have Ho6 := Lib.hid (Ho4.out.below hb6)
      have Hl6 := Lib.hid (Hl4.out.below hb6)
      have Hm6 := Lib.hid (Hm4.out.below hb6)
      have Hr6 := Lib.hid (Hr4.out.below hb6)
      have Hr6' := Lib.hid (Hr4'.out.below hb6)
      clear hb6 Hb4 Ho4 Hl4 Hm4 Hr4 Hr4' Hg4 Hg4'
      go_wp2_with fail
      refine (same_yes _ _ tr _ rfl _ Hr6.out Hr6'.out).mono ?_
      rintro e w7 ⟨rfl, hb7⟩
      have Hb7 := Lib.hid (below_then Hb6.out hb7)
      have Ho7 := Lib.hid (Ho6.out.below hb7)
      have Hl7 := Lib.hid (Hl6.out.below hb7)
      have Hm7 := Lib.hid (Hm6.out.below hb7)
      clear hb7 Hb6 Ho6 Hl6 Hm6 Hr6 Hr6'
      go_wp2_with fail
      refine ((turned_any _ _ l m _ Ho7.out Hm7.out (by omega) (by omega)).mono fun e w' h => gives_turned h).mono ?_
      rintro e w8 ⟨g8, rfl, hg8, hb8⟩
      have Hb8 := Lib.hid (below_then Hb7.out hb8)
      have Ho8 := Lib.hid (Ho7.out.below hb8)
      have Hl8 := Lib.hid (Hl7.out.below hb8)
      have Hm8 := Lib.hid (Hm7.out.below hb8)
      have Hg8 := Lib.hid hg8
      clear hg8 hb8 Hb7 Ho7 Hl7 Hm7
      go_wp2_with fail
      refine ((refTurned_any _ _ l m _ Hl8.out Hm8.out (by omega) (by omega)).mono fun e w' h => gives_turned h).mono ?_
      rintro e w9 ⟨g9, rfl, hg9, hb9⟩
      have Hb9 := Lib.hid (below_then Hb8.out hb9)
      have Ho9 := Lib.hid (Ho8.out.below hb9)
      have Hl9 := Lib.hid (Hl8.out.below hb9)
      have Hg9 := Lib.hid (Hg8.out.below hb9)
      have Hg9' := Lib.hid hg9
      clear hg9 hb9 Hb8 Ho8 Hl8 Hm8 Hg8
      go_wp2_with fail
      refine (sameI_yes _ _ _ _ rfl _ Hg9.out Hg9'.out).mono ?_
      rintro e w10 ⟨rfl, hb10⟩
      have Hb10 := Lib.hid (below_then Hb9.out hb10)
      have Ho10 := Lib.hid (Ho9.out.below hb10)
      have Hl10 := Lib.hid (Hl9.out.below hb10)
      clear hb10 Hb9 Ho9 Hl9 Hg9 Hg9'
      go_wp2_with fail
      refine (same_yes _ _ l _ rfl _ Ho10.out Hl10.out).mono ?_
      rintro e w11 ⟨rfl, hb11⟩
      have Hb11 := Lib.hid (below_then Hb10.out hb11)
      clear hb11 Hb10 Ho10 Hl10
      go_wp2_with fail
      refine (alive_any _).mono ?_
      rintro e w12 ⟨rfl, hb12⟩
      have Hb12 := Lib.hid (below_then Hb11.out hb12)
      clear hb12 Hb11
      go_wp2
      go_ret
      exact ⟨rfl, Hb12.out⟩
end Go.Proofs.Yteojodddfanepaa
