/- parcloseref06.Encode; parcloseref06.May of records that may not be. -/
import Derived.Test.YtnpmepklgakaiaaDoorInodeJ
namespace Go.Proofs.YtnpmepklgakaiaaDoor
open Go.RowKit
set_option linter.unusedVariables false

theorem run_ne4 (w : World) (a b c d a' b' c' d' : Int) : (binOp .neq 23 (.agg #[.int .i64 a, .int .i64 b, .int .i64 c, .int .i64 d]) (.agg #[.int .i64 a', .int .i64 b', .int .i64 c', .int .i64 d'])).run Tryd.prog w = .ok (.bool (!(a == a' && (b == b' && (c == c' && d == d'))))) w := by
  rw [run_neq_struct, show (10000 : Nat) = 9999 + 1 from rfl, run_eq4In]
  rfl
theorem refEncode_any (x : Ino) (hx : OkI x) (h : SmallI x) (W : World) : Calls Tryd.prog 12 #[iv x] W (Hands W 44 1 8 (u64s (sealed (wordsI x)))) := by
  have HWd := Lib.hid (wordsI_wd x hx h)
  obtain ⟨k, ln, gn, sz, ar, mp, h0, h1, h2, h3, pa, mt, ct⟩ := x
  obtain ⟨o0, o1, o2, o3, o4, o5, o6, o7, o8, o9, o10, o11, o12⟩ := hx
  obtain ⟨⟨s1, s1'⟩, s2, s3, s4, s5, s6, s7, ⟨s8, s8'⟩, ⟨s9, s9'⟩, ⟨s10, s10'⟩, ⟨s11, s11'⟩, s12, s13⟩ := h
  unfold Z64 at *
  dsimp only at *
  obtain ⟨ln, rfl⟩ := Int.eq_ofNat_of_zero_le s1
  obtain ⟨sz, rfl⟩ := Int.eq_ofNat_of_zero_le s2
  obtain ⟨ar, rfl⟩ := Int.eq_ofNat_of_zero_le s3
  obtain ⟨mp, rfl⟩ := Int.eq_ofNat_of_zero_le s4
  obtain ⟨pa, rfl⟩ := Int.eq_ofNat_of_zero_le s5
  obtain ⟨mt, rfl⟩ := Int.eq_ofNat_of_zero_le s6
  obtain ⟨ct, rfl⟩ := Int.eq_ofNat_of_zero_le s7
  obtain ⟨h0, rfl⟩ := Int.eq_ofNat_of_zero_le s8
  obtain ⟨h1, rfl⟩ := Int.eq_ofNat_of_zero_le s9
  obtain ⟨h2, rfl⟩ := Int.eq_ofNat_of_zero_le s10
  obtain ⟨h3, rfl⟩ := Int.eq_ofNat_of_zero_le s11
  have HW := Lib.hid (refWordsI_any k ln gn sz ar mp h0 h1 h2 h3 pa mt ct (by omega) (by omega) (by omega) (by omega) (by omega) (by omega) (by omega) (by omega) (by omega) (by omega) (by omega) (by omega) (by omega))
  have HB0 := Lib.hid ((Below.refl W.heap.size W).alloc (Nat.le_refl _) (.cells (icells ⟨k, (ln : Nat), gn, (sz : Nat), (ar : Nat), (mp : Nat), (h0 : Nat), (h1 : Nat), (h2 : Nat), (h3 : Nat), (pa : Nat), (mt : Nat), (ct : Nat)⟩) 25))
  have HL7 := Lib.hid (wordsI_len ⟨k, (ln : Nat), gn, (sz : Nat), (ar : Nat), (mp : Nat), (h0 : Nat), (h1 : Nat), (h2 : Nat), (h3 : Nat), (pa : Nat), (mt : Nat), (ct : Nat)⟩)
  have e : wordsN k ln gn sz ar mp h0 h1 h2 h3 pa mt ct = wordsI ⟨k, (ln : Nat), gn, (sz : Nat), (ar : Nat), (mp : Nat), (h0 : Nat), (h1 : Nat), (h2 : Nat), (h3 : Nat), (pa : Nat), (mt : Nat), (ct : Nat)⟩ := rfl
  rw [e] at HW
  clear e o0 o1 o2 o3 o4 o5 o6 o7 o8 o9 o10 o11 o12 s1 s2 s3 s4 s5 s6 s7 s8 s9 s10 s11 s1' s8' s9' s10' s11' s12 s13
  generalize wordsI ⟨k, (ln : Nat), gn, (sz : Nat), (ar : Nat), (mp : Nat), (h0 : Nat), (h1 : Nat), (h2 : Nat), (h3 : Nat), (pa : Nat), (mt : Nat), (ct : Nat)⟩ = L at *
  unfold iv icells at HW
  unfold icells at HB0
  unfold iv icells
  dsimp only at HW HB0 ⊢
  go_enter Tryd.func12, Tryd.ntmps12
  go_wp2_with fail
  refine (HW.out _).mono ?_
  rintro e w1 ⟨A1, c1, rfl, ho1, hb1⟩
  have HB1 := Lib.hid (below_then HB0.out hb1)
  have HS := Lib.hid (refSeal_any (.slice A1 7 c1) L w1 (by rw [HL7.out]; exact Rd.of_own ho1) HWd.out (by rw [HL7.out]; decide))
  rw [HL7.out] at HS
  clear ho1 hb1
  go_wp2_with fail
  refine HS.out.mono ?_
  rintro e w2 ⟨A2, c2, rfl, ho2, hb2⟩
  have HB2 := Lib.hid (below_then HB1.out hb2)
  have HO2 := Lib.hid (own_mono ho2 HB1.out.size)
  clear ho2 hb2
  go_wp2
  go_ret
  exact ⟨_, _, rfl, HO2.out, HB2.out⟩

set_option maxRecDepth 100000 in
set_option maxHeartbeats 16000000 in
theorem refMay_bad (k : Nat) (ln : Int) (gn : Nat) (sz ar mp h0 h1 h2 h3 pa mt ct : Int) (h : ¬ SmallI ⟨k, ln, gn, sz, ar, mp, h0, h1, h2, h3, pa, mt, ct⟩) (P I B : Int) (W : World) :
    Calls Tryd.prog 8 #[iv ⟨k, ln, gn, sz, ar, mp, h0, h1, h2, h3, pa, mt, ct⟩, gv P I B] W fun e W' => e = .returned (.bool false) ∧ Below W.heap.size W W' := by
  have HB0 := Lib.hid (((Below.refl W.heap.size W).alloc (Nat.le_refl _) (.cells (icells ⟨k, ln, gn, sz, ar, mp, h0, h1, h2, h3, pa, mt, ct⟩) 25)).alloc (by simp) (.cells #[.int .i64 P, .int .i64 I, .int .i64 B] 27))
  have HH := Lib.hid h
  clear h
  unfold icells at HB0
  unfold iv gv icells
  dsimp only at HB0 ⊢
  by_cases t0 : 0 ≤ ln
  case neg =>
    have d0 : decide (ln ≥ 0) = false := by simp; omega
    clear t0
    go_enter Tryd.func8, Tryd.ntmps8
    go_wp2
    refine wp_loop_rounds 5 ?_
    rw [rounds_succ]
    go_wp2
    rw [rounds_succ]
    go_wp2
    rw [rounds_succ]
    go_wp2
    rw [rounds_succ]
    go_wp2
    rw [rounds_succ]
    go_wp2
    go_ret
    exact ⟨rfl, HB0.out⟩
  have d0 : decide (ln ≥ 0) = true := by simp; omega
  by_cases t1 : ln < 256
  case neg =>
    have d1 : decide (ln < 256) = false := by simp; omega
    clear t1
    clear t0
    go_enter Tryd.func8, Tryd.ntmps8
    go_wp2
    refine wp_loop_rounds 5 ?_
    rw [rounds_succ]
    go_wp2
    rw [rounds_succ]
    go_wp2
    rw [rounds_succ]
    go_wp2
    rw [rounds_succ]
    go_wp2
    rw [rounds_succ]
    go_wp2
    go_ret
    exact ⟨rfl, HB0.out⟩
  have d1 : decide (ln < 256) = true := by simp; omega
  by_cases t2 : 0 ≤ ar
  case neg =>
    have d2 : decide (ar ≥ 0) = false := by simp; omega
    clear t2
    clear t0 t1
    go_enter Tryd.func8, Tryd.ntmps8
    go_wp2
    refine wp_loop_rounds 5 ?_
    rw [rounds_succ]
    go_wp2
    rw [rounds_succ]
    go_wp2
    rw [rounds_succ]
    go_wp2
    rw [rounds_succ]
    go_wp2
    rw [rounds_succ]
    go_wp2
    go_ret
    exact ⟨rfl, HB0.out⟩
  have d2 : decide (ar ≥ 0) = true := by simp; omega
  by_cases t3 : 0 ≤ mp
  case neg =>
    have d3 : decide (mp ≥ 0) = false := by simp; omega
    clear t3
    clear t0 t1 t2
    go_enter Tryd.func8, Tryd.ntmps8
    go_wp2
    refine wp_loop_rounds 5 ?_
    rw [rounds_succ]
    go_wp2
    rw [rounds_succ]
    go_wp2
    rw [rounds_succ]
    go_wp2
    rw [rounds_succ]
    go_wp2
    rw [rounds_succ]
    go_wp2
    go_ret
    exact ⟨rfl, HB0.out⟩
  have d3 : decide (mp ≥ 0) = true := by simp; omega
  by_cases t4 : 0 ≤ pa
  case neg =>
    have d4 : decide (pa ≥ 0) = false := by simp; omega
    clear t4
    clear t0 t1 t2 t3
    go_enter Tryd.func8, Tryd.ntmps8
    go_wp2
    refine wp_loop_rounds 5 ?_
    rw [rounds_succ]
    go_wp2
    rw [rounds_succ]
    go_wp2
    rw [rounds_succ]
    go_wp2
    rw [rounds_succ]
    go_wp2
    rw [rounds_succ]
    go_wp2
    go_ret
    exact ⟨rfl, HB0.out⟩
  have d4 : decide (pa ≥ 0) = true := by simp; omega
  by_cases t5 : 0 ≤ sz
  case neg =>
    have d5 : decide (sz ≥ 0) = false := by simp; omega
    clear t5
    clear t0 t1 t2 t3 t4
    go_enter Tryd.func8, Tryd.ntmps8
    go_wp2
    refine wp_loop_rounds 5 ?_
    rw [rounds_succ]
    go_wp2
    rw [rounds_succ]
    go_wp2
    rw [rounds_succ]
    go_wp2
    rw [rounds_succ]
    go_wp2
    rw [rounds_succ]
    go_wp2
    go_ret
    exact ⟨rfl, HB0.out⟩
  have d5 : decide (sz ≥ 0) = true := by simp; omega
  by_cases t6 : 0 ≤ mt
  case neg =>
    have d6 : decide (mt ≥ 0) = false := by simp; omega
    clear t6
    clear t0 t1 t2 t3 t4 t5
    go_enter Tryd.func8, Tryd.ntmps8
    go_wp2
    refine wp_loop_rounds 5 ?_
    rw [rounds_succ]
    go_wp2
    rw [rounds_succ]
    go_wp2
    rw [rounds_succ]
    go_wp2
    rw [rounds_succ]
    go_wp2
    rw [rounds_succ]
    go_wp2
    go_ret
    exact ⟨rfl, HB0.out⟩
  have d6 : decide (mt ≥ 0) = true := by simp; omega
  by_cases t7 : 0 ≤ ct
  case neg =>
    have d7 : decide (ct ≥ 0) = false := by simp; omega
    clear t7
    clear t0 t1 t2 t3 t4 t5 t6
    go_enter Tryd.func8, Tryd.ntmps8
    go_wp2
    refine wp_loop_rounds 5 ?_
    rw [rounds_succ]
    go_wp2
    rw [rounds_succ]
    go_wp2
    rw [rounds_succ]
    go_wp2
    rw [rounds_succ]
    go_wp2
    rw [rounds_succ]
    go_wp2
    go_ret
    exact ⟨rfl, HB0.out⟩
  have d7 : decide (ct ≥ 0) = true := by simp; omega
  by_cases t8 : 0 ≤ h0
  case neg =>
    have d8 : decide (h0 ≥ 0) = false := by simp; omega
    clear t8
    clear t0 t1 t2 t3 t4 t5 t6 t7
    go_enter Tryd.func8, Tryd.ntmps8
    go_wp2
    refine wp_loop_rounds 5 ?_
    rw [rounds_succ]
    go_wp2
    rw [rounds_succ]
    go_wp2
    rw [rounds_succ]
    go_wp2
    rw [rounds_succ]
    go_wp2
    rw [rounds_succ]
    go_wp2
    go_ret
    exact ⟨rfl, HB0.out⟩
  have d8 : decide (h0 ≥ 0) = true := by simp; omega
  by_cases t9 : h0 < 256
  case neg =>
    have d9 : decide (h0 < 256) = false := by simp; omega
    clear t9
    clear t0 t1 t2 t3 t4 t5 t6 t7 t8
    go_enter Tryd.func8, Tryd.ntmps8
    go_wp2
    refine wp_loop_rounds 5 ?_
    rw [rounds_succ]
    go_wp2
    rw [rounds_succ]
    go_wp2
    rw [rounds_succ]
    go_wp2
    rw [rounds_succ]
    go_wp2
    rw [rounds_succ]
    go_wp2
    go_ret
    exact ⟨rfl, HB0.out⟩
  have d9 : decide (h0 < 256) = true := by simp; omega
  by_cases t10 : 0 ≤ h1
  case neg =>
    have d10 : decide (h1 ≥ 0) = false := by simp; omega
    clear t10
    clear t0 t1 t2 t3 t4 t5 t6 t7 t8 t9
    go_enter Tryd.func8, Tryd.ntmps8
    go_wp2
    refine wp_loop_rounds 5 ?_
    rw [rounds_succ]
    go_wp2
    rw [rounds_succ]
    go_wp2
    rw [rounds_succ]
    go_wp2
    rw [rounds_succ]
    go_wp2
    rw [rounds_succ]
    go_wp2
    go_ret
    exact ⟨rfl, HB0.out⟩
  have d10 : decide (h1 ≥ 0) = true := by simp; omega
  by_cases t11 : h1 < 256
  case neg =>
    have d11 : decide (h1 < 256) = false := by simp; omega
    clear t11
    clear t0 t1 t2 t3 t4 t5 t6 t7 t8 t9 t10
    go_enter Tryd.func8, Tryd.ntmps8
    go_wp2
    refine wp_loop_rounds 5 ?_
    rw [rounds_succ]
    go_wp2
    rw [rounds_succ]
    go_wp2
    rw [rounds_succ]
    go_wp2
    rw [rounds_succ]
    go_wp2
    rw [rounds_succ]
    go_wp2
    go_ret
    exact ⟨rfl, HB0.out⟩
  have d11 : decide (h1 < 256) = true := by simp; omega
  by_cases t12 : 0 ≤ h2
  case neg =>
    have d12 : decide (h2 ≥ 0) = false := by simp; omega
    clear t12
    clear t0 t1 t2 t3 t4 t5 t6 t7 t8 t9 t10 t11
    go_enter Tryd.func8, Tryd.ntmps8
    go_wp2
    refine wp_loop_rounds 5 ?_
    rw [rounds_succ]
    go_wp2
    rw [rounds_succ]
    go_wp2
    rw [rounds_succ]
    go_wp2
    rw [rounds_succ]
    go_wp2
    rw [rounds_succ]
    go_wp2
    go_ret
    exact ⟨rfl, HB0.out⟩
  have d12 : decide (h2 ≥ 0) = true := by simp; omega
  by_cases t13 : h2 < 256
  case neg =>
    have d13 : decide (h2 < 256) = false := by simp; omega
    clear t13
    clear t0 t1 t2 t3 t4 t5 t6 t7 t8 t9 t10 t11 t12
    go_enter Tryd.func8, Tryd.ntmps8
    go_wp2
    refine wp_loop_rounds 5 ?_
    rw [rounds_succ]
    go_wp2
    rw [rounds_succ]
    go_wp2
    rw [rounds_succ]
    go_wp2
    rw [rounds_succ]
    go_wp2
    rw [rounds_succ]
    go_wp2
    go_ret
    exact ⟨rfl, HB0.out⟩
  have d13 : decide (h2 < 256) = true := by simp; omega
  by_cases t14 : 0 ≤ h3
  case neg =>
    have d14 : decide (h3 ≥ 0) = false := by simp; omega
    clear t14
    clear t0 t1 t2 t3 t4 t5 t6 t7 t8 t9 t10 t11 t12 t13
    go_enter Tryd.func8, Tryd.ntmps8
    go_wp2
    refine wp_loop_rounds 5 ?_
    rw [rounds_succ]
    go_wp2
    rw [rounds_succ]
    go_wp2
    rw [rounds_succ]
    go_wp2
    rw [rounds_succ]
    go_wp2
    rw [rounds_succ]
    go_wp2
    go_ret
    exact ⟨rfl, HB0.out⟩
  have d14 : decide (h3 ≥ 0) = true := by simp; omega
  by_cases t15 : h3 < 256
  case neg =>
    have d15 : decide (h3 < 256) = false := by simp; omega
    clear t15
    clear t0 t1 t2 t3 t4 t5 t6 t7 t8 t9 t10 t11 t12 t13 t14
    go_enter Tryd.func8, Tryd.ntmps8
    go_wp2
    refine wp_loop_rounds 5 ?_
    rw [rounds_succ]
    go_wp2
    rw [rounds_succ]
    go_wp2
    rw [rounds_succ]
    go_wp2
    rw [rounds_succ]
    go_wp2
    rw [rounds_succ]
    go_wp2
    go_ret
    exact ⟨rfl, HB0.out⟩
  have d15 : decide (h3 < 256) = true := by simp; omega
  by_cases hk : k = 2
  · have q2 : ((k : Int) == 2) = true := by simp; omega
    have q4 : (mp != 0) = true := by
      simp only [bne_iff_ne, ne_eq]
      intro hm
      exact HH.out ⟨⟨t0, t1⟩, t5, t2, t3, t4, t6, t7, ⟨t8, t9⟩, ⟨t10, t11⟩, ⟨t12, t13⟩, ⟨t14, t15⟩, fun _ => hm, fun h => (h hk).elim⟩
    clear hk t0 t1 t2 t3 t4 t5 t6 t7 t8 t9 t10 t11 t12 t13 t14 t15
    go_enter Tryd.func8, Tryd.ntmps8
    go_wp2
    refine wp_loop_rounds 5 ?_
    rw [rounds_succ]
    go_wp2
    rw [rounds_succ]
    go_wp2
    rw [rounds_succ]
    go_wp2
    rw [rounds_succ]
    go_wp2
    rw [rounds_succ]
    go_wp2
    go_ret
    exact ⟨rfl, HB0.out⟩
  · have q2 : ((k : Int) == 2) = false := beq_false_of_ne (by omega)
    have q3 : ((k : Int) != 2) = true := by simp; omega
    have q4 : ∀ w, (binOp .neq 23 (.agg #[.int .i64 h0, .int .i64 h1, .int .i64 h2, .int .i64 h3]) (.agg #[.int .i64 0, .int .i64 0, .int .i64 0, .int .i64 0])).run Tryd.prog w = .ok (.bool true) w := fun w => by
      rw [run_ne4]
      congr 2
      simp only [Bool.not_eq_true', Bool.eq_false_iff]
      intro he
      simp only [Bool.and_eq_true, beq_iff_eq] at he
      exact HH.out ⟨⟨t0, t1⟩, t5, t2, t3, t4, t6, t7, ⟨t8, t9⟩, ⟨t10, t11⟩, ⟨t12, t13⟩, ⟨t14, t15⟩, fun h => (hk h).elim, fun _ => he⟩
    have hg4 := guard_eq4
    clear hk t0 t1 t2 t3 t4 t5 t6 t7 t8 t9 t10 t11 t12 t13 t14 t15
    go_enter Tryd.func8, Tryd.ntmps8
    go_wp2
    refine wp_loop_rounds 5 ?_
    rw [rounds_succ]
    go_wp2
    rw [rounds_succ]
    go_wp2
    rw [rounds_succ]
    go_wp2
    rw [rounds_succ]
    go_wp2
    rw [rounds_succ]
    go_wp2
    go_ret
    exact ⟨rfl, HB0.out⟩
end Go.Proofs.YtnpmepklgakaiaaDoor
