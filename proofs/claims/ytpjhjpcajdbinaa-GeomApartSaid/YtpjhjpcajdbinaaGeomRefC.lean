/- parcloseref04.What. -/
import Derived.Test.YtpjhjpcajdbinaaGeomRefB
import Derived.Test.YtpjhjpcajdbinaaGeomWhat1
namespace Go.Proofs.Ytpjhjpcajdbinaa
open Go.RowKit
set_option linter.unusedVariables false

/-- a region's value, and whether there is one -/
def OutB (w : World) (k n o : Int) (b : Bool) (r : Ending) (w' : World) : Prop := r = .returned (.tuple #[.agg #[.int .u8 k, .int .i64 n, .int .i64 o], .bool b]) ∧ Below w.heap.size w w'

set_option maxHeartbeats 2000000 in
theorem refWhat_neg (P I B : Nat) (hP : P ≤ 8) (hI : 2 ≤ I) (hI2 : I ≤ 64) (hB : B ≤ 255) (at_ : Int) (h : at_ < 0) (w : World) :
    Calls Try.prog 10 #[gv P I B, .int .i64 at_] w (OutB w 0 0 0 false) := by
  have HA := Lib.hid (fun W => All_any P I B hP hI hI2 hB W)
  have hm : 2 + I + P + B ≤ 400 := by omega
  have h0 : 0 < 2 + I + P + B := by omega
  have hd : decide (at_ ≥ 0) = false := by simp; omega
  have HT := Lib.hid (Two.new w P I B)
  unfold gv at HA ⊢
  generalize 2 + I + P + B = m at *
  go_enter Try.func10, Try.ntmps10
  go_wp2_with fail
  refine (HA.out _).mono ?_
  rintro e w3 ⟨A, c, rfl, hown, hb⟩
  have HT3 := Lib.hid (HT.out.below hb)
  obtain ⟨r0, r1, r2, s0, s1, s2⟩ := blk3 HT3.out.res
  clear hown hb HT
  go_wp2
  go_loop [7, 8] (fun n i => i = .int .i64 0) (fun _ i => m - (intOf i).toNat)
  case atStart => rfl
  case round =>
    subst hrel
    go_wp2
    refine bodyPost_ret (v := .tuple #[.agg #[.int .u8 0, .int .i64 0, .int .i64 0], .bool false]) (by unfold results; go_simp) rfl ?_
    exact ⟨rfl, set3 HT3.out.bel (by omega) _ _ _⟩
set_option maxHeartbeats 4000000 in
theorem refWhat_nat (P I B : Nat) (hP : P ≤ 8) (hI : 2 ≤ I) (hI2 : I ≤ 64) (hB : B ≤ 255) (at_ : Nat) (ha : at_ ≤ 9223372036854775807) (w : World) :
    Calls Try.prog 10 #[gv P I B, .int .i64 at_] w fun e w' =>
      (8 * (2 + I + 17 * P + 4 * B) ≤ at_ ∧ OutB w 0 0 0 false e w') ∨ ∃ j, j < 2 + I + P + B ∧ spO P I j ≤ at_ ∧ at_ < spO P I j + spN P I j ∧ OutB w (spK P I j : Nat) (spW P I j : Nat) ((at_ - spO P I j : Nat) : Int) true e w' := by
  have HA := Lib.hid (fun W => All_any P I B hP hI hI2 hB W)
  have hso := spO_all P I B
  have hm : 2 + I + P + B ≤ 400 := by omega
  have h0 : 0 < 2 + I + P + B := by omega
  rw [← hso]
  have HT := Lib.hid (Two.new w P I B)
  clear hso
  unfold gv at HA ⊢
  generalize 2 + I + P + B = m at *
  go_enter Try.func10, Try.ntmps10
  go_wp2_with fail
  refine (HA.out _).mono ?_
  rintro e w3 ⟨A, c, rfl, hown, hb⟩
  obtain ⟨g, cap, hv, _, _⟩ := hown.form h0
  injection hv with hA _ hc
  subst hA
  subst hc
  have HT3 := Lib.hid (HT.out.below hb)
  have Hown := Lib.hid hown
  clear hown hb HT
  go_wp2
  go_loop [7, 8] (fun n i => ∃ j lf : Nat, j ≤ m ∧ i = .int .i64 (j : Int) ∧ n = .int .i64 (lf : Int) ∧ spO P I j + lf = at_) (fun _ i => m - (intOf i).toNat)
  case atStart => exact ⟨0, at_, Nat.zero_le _, rfl, rfl, by rw [spO_zero]; omega⟩
  case round =>
    obtain ⟨j, lf, hj, rfl, rfl, hlf⟩ := hrel
    have hlt2 : w.heap.size + 1 < w3.heap.size := HT3.out.lt
    have hlt3 : w.heap.size < w3.heap.size := by omega
    obtain ⟨r0, r1, r2, s0, s1, s2⟩ := blk3 HT3.out.res
    have hlfa : lf ≤ at_ := by omega
    by_cases hlt : j < m
    · obtain ⟨hc0, hc1, hc2, hc3⟩ := span_at Hown.out hlt
      have Hs := Lib.hid (spO_succ P I j)
      have Hlf := Lib.hid hlf
      have Hfin := Lib.hid (fun (h : lf < spN P I j) => show j < m ∧ spO P I j ≤ at_ ∧ at_ < spO P I j + spN P I j ∧ ((lf : Nat) : Int) = ((at_ - spO P I j : Nat) : Int) from ⟨hlt, by omega, by omega, by omega⟩)
      clear hlf
      by_cases h1 : lf < spN P I j
      · obtain ⟨_, f1, f2, f3⟩ := Hfin.out h1
        have Hf := Lib.hid (show spO P I j ≤ at_ ∧ at_ < spO P I j + spN P I j from ⟨f1, f2⟩)
        have Hf3 := Lib.hid f3
        clear f1 f2 f3 Hfin
        generalize hsn : spN P I j = sn at *
        generalize hsk : spK P I j = k at *
        generalize hsw : spW P I j = wh at *
        have Hsn := Lib.hid hsn
        have Hsk := Lib.hid hsk
        have Hsw := Lib.hid hsw
        clear hsn hsk hsw
        go_wp2
        refine bodyPost_ret (v := .tuple #[.agg #[.int .u8 k, .int .i64 wh, .int .i64 lf], .bool true]) (by unfold results; go_simp) rfl ?_
        refine .inr ⟨j, hlt, Hf.out.1, by rw [Hsn.out]; exact Hf.out.2, ?_, ?_⟩
        · rw [Hsk.out, Hsw.out, ← Hf3.out]
        · exact below_alloc (set3 (b := w.heap.size + 1) HT3.out.bel (by omega) _ _ _) (Nat.le_refl _) _
      · have hge : spN P I j ≤ lf := by omega
        have Hs2 := Lib.hid (show spO P I (j + 1) + (lf - spN P I j) = at_ by have := Hs.out; have := Hlf.out; omega)
        clear Hfin h1 Hs
        generalize hsn : spN P I j = sn at *
        have Hsn := Lib.hid hsn
        clear hsn
        go_wp2
        go_round
        case rel => exact ⟨j + 1, lf - sn, by omega, by go_num, by go_num, Hs2.out⟩
        case measure => simp [intOf]; omega
    · obtain rfl : j = m := by omega
      have Hlf := Lib.hid hlf
      clear hlt hj hlf
      go_wp2
      refine bodyPost_ret (v := .tuple #[.agg #[.int .u8 0, .int .i64 0, .int .i64 0], .bool false]) (by unfold results; go_simp) rfl ?_
      have := Hlf.out
      exact .inl ⟨by omega, rfl, set3 HT3.out.bel (by omega) _ _ _⟩
end Go.Proofs.Ytpjhjpcajdbinaa
