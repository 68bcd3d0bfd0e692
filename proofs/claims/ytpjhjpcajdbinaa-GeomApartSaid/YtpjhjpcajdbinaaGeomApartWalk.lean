/- The walk of the law GeomApart. -/
import Derived.Test.YtpjhjpcajdbinaaGeomFirst
namespace Go.Proofs.Ytpjhjpcajdbinaa
open Go.RowKit
set_option linter.unusedVariables false

structure Bef (w : World) (P I B : Int) (D : Nat) (k n o : Nat) (W : World) : Prop where
  geo : W.heap[w.heap.size]? = some (.cells #[.int .i64 P, .int .i64 I, .int .i64 B] 23 (0, 0))
  res : W.heap[D]? = some (.cells #[.int .u8 k, .int .i64 n, .int .i64 o] 25 (0, 0))
  bel : Below w.heap.size w W
theorem Bef.below {w W W' : World} {P I B : Int} {D k n o : Nat} (h : Bef w P I B D k n o W) (hb : Below W.heap.size W W') : Bef w P I B D k n o W' := ⟨blk_below h.geo hb, blk_below h.res hb, below_on h.bel (Nat.le_refl _) hb⟩
theorem Bef.set {w W : World} {P I B : Int} {D k n o : Nat} (h : Bef w P I B D k n o W) (hD : w.heap.size < D) (k' n' o' : Nat) : Bef w P I B D k' n' o' (((W.setCell ⟨D, 0, none⟩ (.int .u8 k')).setCell ⟨D, 1, none⟩ (.int .i64 n')).setCell ⟨D, 2, none⟩ (.int .i64 o')) := by
  refine ⟨?_, ?_, set3 h.bel (by omega) _ _ _⟩
  · have hne : w.heap.size ≠ D := by omega
    rw [heap_setCell_other _ ⟨D, 2, none⟩ _ _ hne, heap_setCell_other _ ⟨D, 1, none⟩ _ _ hne, heap_setCell_other _ ⟨D, 0, none⟩ _ _ hne]
    exact h.geo
  · have h1 := heap_setCell_same _ D 0 _ _ (.int .u8 (k' : Int)) h.res
    have h2 := heap_setCell_same _ D 1 _ _ (.int .i64 (n' : Int)) h1
    exact heap_setCell_same _ D 2 _ _ (.int .i64 (o' : Int)) h2

set_option maxRecDepth 100000 in
set_option maxHeartbeats 4000000 in
theorem geomApart_walk (w : World) (P I B : Int) (hP : I64 P) (hI : I64 I) (hB : I64 B) :
    Calls Try.prog 6 #[gv P I B] w fun e w' => e = .returned (.bool true) ∧ Below w.heap.size w w' := by
  have hbx : Below w.heap.size w (w.alloc (.cells #[.int .i64 P, .int .i64 I, .int .i64 B] 23)) := (Below.refl _ _).alloc (Nat.le_refl _) _
  have hgx := heap_alloc_new w (.cells #[.int .i64 P, .int .i64 I, .int .i64 B] 23)
  have HBx := Lib.hid hbx
  have HGx := Lib.hid hgx
  clear hbx hgx
  have HA := Lib.hid alive_any
  by_cases hm : MayG P I B
  · have HLn := Lib.hid (fun W => Lines_may P I B hm W)
    have HE := Lib.hid (fun W => What_none P I B (8 * linesOf P I B) hm (.inr (Int.le_refl _)) W)
    have HN := Lib.hid (fun W => What_none P I B (-1) hm (.inl (by omega)) W)
    have HY := Lib.hid (fun W a h0 h1 => What_yes P I B a hm h0 h1 W)
    have HF := Lib.hid (fun W k n o hk5 hk1 a hs h3 h4 h5 h2 hn => first_yes P I B hm k n o hk5 hk1 a hs h3 h4 h5 h2 hn W)
    obtain ⟨P, rfl⟩ := Int.eq_ofNat_of_zero_le (show 0 ≤ P by have := hm.1; omega)
    obtain ⟨I, rfl⟩ := Int.eq_ofNat_of_zero_le (show 0 ≤ I by have := hm.2.2.1; omega)
    obtain ⟨B, rfl⟩ := Int.eq_ofNat_of_zero_le (show 0 ≤ B by have := hm.2.2.2.2.1; omega)
    have hlast := regOf_last P I B hm.1 hm.2.2.1 hm.2.2.2.2.1
    obtain ⟨m1, m2, m3, m4, m5, m6⟩ := hm
    have hll : linesOf P I B = ((2 + I + 17 * P + 4 * B : Nat) : Int) := by unfold linesOf; omega
    rw [hll] at HLn HE hlast
    have HY' := Lib.hid (fun W (a : Nat) (h1 : a < 8 * (2 + I + 17 * P + 4 * B)) => HY.out W (a : Int) (by omega) (by rw [hll]; omega))
    have Hst := Lib.hid (fun a => regOf_step P I B a (by omega) (by omega))
    have Hz := Lib.hid (regOf_zero P I (by omega) (by omega))
    have Hlast := Lib.hid hlast
    have hL1 : 2 + I + 17 * P + 4 * B ≤ 4096 := by omega
    have hL0 : 1 ≤ 2 + I + 17 * P + 4 * B := by omega
    clear HY hll hlast
    generalize 2 + I + 17 * P + 4 * B = L at *
    unfold gv at HLn HE HN HY' HF ⊢
    clear hP hI hB m1 m3 m5
    have hq := run_eqR
    have hg := guard_eqR
    go_enter Try.func6, Try.ntmps6
    go_wp2_with fail
    refine (HLn.out _).mono ?_
    rintro e w1 ⟨rfl, hb⟩
    have hg1 := blk_below HGx.out hb
    have HB1 := Lib.hid (below_on HBx.out (Nat.le_refl _) hb)
    have hlt : w.heap.size < w1.heap.size := (Array.getElem?_eq_some_iff.1 hg1).1
    have HG1 := Lib.hid hg1
    clear hb hg1 HGx HBx
    go_wp2
    obtain ⟨W2, hW2⟩ : ∃ W2, W2 = w1.alloc (.cells #[.int .u8 0, .int .i64 0, .int .i64 0] 25) := ⟨_, rfl⟩
    have HS2 : Hid (Bef w P I B w1.heap.size 0 0 0 W2) := Lib.hid (by
      rw [hW2]
      exact ⟨blk_below HG1.out ((Below.refl _ _).alloc (Nat.le_refl _) _), heap_alloc_new w1 _, below_alloc HB1.out (Nat.le_refl _) _⟩)
    rw [← hW2]
    clear hW2 HG1 HB1
    generalize w1.heap.size = D at *
    go_loopw [6, 7, 8] (fun i x f wr => ∃ a k n o : Nat, a ≤ 8 * L ∧ i = .int .i64 (a : Int) ∧ (a = 0 → k = 0 ∧ n = 0 ∧ o = 0) ∧ (∀ b : Nat, a = b + 1 → regOf P I (b : Int) = ((k : Int), (n : Int), (o : Int))) ∧ Bef w P I B D k n o wr) (fun i _ _ _ => 8 * L - (intOf i).toNat)
    case atStart => exact ⟨0, 0, 0, 0, Nat.zero_le _, rfl, fun _ => ⟨rfl, rfl, rfl⟩, fun b h => by omega, HS2.out⟩
    case round =>
      obtain ⟨a, k, n, o, ha, rfl, h0, hpre, hbef⟩ := hrel
      clear HS2
      have HS := Lib.hid hbef
      have H0 := Lib.hid h0
      have Hpre := Lib.hid hpre
      clear h0 hpre hbef
      by_cases hlta : a < 8 * L
      · obtain ⟨k', n', o', e', hk5, hk1, hn1, ho1, hcase⟩ : ∃ k' n' o' : Nat, regOf P I (a : Int) = ((k' : Int), (n' : Int), (o' : Int)) ∧ k' ≤ 5 ∧ k ≤ 5 ∧ n' ≤ 1000 ∧ o ≤ 136 ∧
            ((k' = k ∧ n' = n ∧ o' = o + 1) ∨ ((k < k' ∨ (k = k' ∧ n < n')) ∧ o' = 0 ∧ a % 8 = 0 ∧ startOf P I (k' : Nat) (n' : Nat) = (a : Int) ∧ 1 ≤ k' ∧ (k' = 3 → 1 ≤ n' ∧ n' ≤ I) ∧ (k' = 4 → n' < P) ∧ (k' = 5 → 1 ≤ n' ∧ n' ≤ B) ∧ (k' ≤ 2 → n' = 0))) := by
          cases a with
          | zero =>
            obtain ⟨rfl, rfl, rfl⟩ := H0.out rfl
            refine ⟨1, 0, 0, Hz.out, by omega, by omega, by omega, by omega, .inr ⟨.inl (by omega), rfl, rfl, ?_, by omega, by omega, by omega, by omega, by omega⟩⟩
            unfold startOf
            rw [if_neg (by decide), if_neg (by decide), if_neg (by decide)]
            rfl
          | succ b =>
            obtain ⟨k0, n0, o0, k', n', o', e0, e1, c1, c2, c3, c4, c5, hc⟩ := Hst.out b (by omega)
            have e2 := Hpre.out b rfl
            rw [e0] at e2
            injection e2 with q1 q2
            injection q2 with q2 q3
            obtain rfl : k0 = k := by omega
            obtain rfl : n0 = n := by omega
            obtain rfl : o0 = o := by omega
            exact ⟨k', n', o', e1, c2, c1, by omega, c5, hc⟩
        have hWy := fun W => HY'.out W a hlta
        rw [e'] at hWy
        have HWy := Lib.hid hWy
        have E2 : Hid (∀ b : Nat, a + 1 = b + 1 → regOf P I (b : Int) = ((k' : Int), (n' : Int), (o' : Int))) := Lib.hid (fun b hb => by
          obtain rfl : a = b := by omega
          exact e')
        clear hWy e'
        dsimp only at HWy
        obtain ⟨g0, g1, g2, _, _, _⟩ := blk3 HS.out.geo
        obtain ⟨r0, r1, r2, s0, s1, s2⟩ := blk3 HS.out.res
        have hai : (a : Int) < 8 * (L : Int) := by omega
        rcases hcase with ⟨rfl, rfl, rfl⟩ | ⟨hlater, rfl, hmod, hstart, hk1', h3, h4, h5, h2⟩
        · have z1 : ((k' : Int) == (k' : Int)) = true := by simp
          have z2 : ((n' : Int) == (n' : Int)) = true := by simp
          go_wp2_with fail
          refine (HWy.out _).mono ?_
          rintro e w3 ⟨rfl, hb⟩
          have HS3 := Lib.hid (HS.out.below hb)
          have hlt3 : D < w3.heap.size := (Array.getElem?_eq_some_iff.1 HS3.out.res).1
          clear hb g0 g1 g2 r0 r1 r2 s0 s1 s2 HS
          obtain ⟨r0, r1, r2, s0, s1, s2⟩ := blk3 HS3.out.res
          have HZ : Hid (Bef w P I B D k' n' (o + 1) ((((w3.setCell ⟨D, 0, none⟩ (.int .u8 k')).setCell ⟨D, 1, none⟩ (.int .i64 n')).setCell ⟨D, 2, none⟩ (.int .i64 ((o : Int) + 1))).alloc (.cells #[.int .u8 k', .int .i64 n', .int .i64 ((o : Int) + 1)] 25))) := Lib.hid (by
            have := HS3.out.set hlt k' n' (o + 1)
            rw [show ((o + 1 : Nat) : Int) = (o : Int) + 1 by omega] at this
            exact this.below ((Below.refl _ _).alloc (Nat.le_refl _) _))
          go_wp2
          go_roundw
          case rel => exact ⟨a + 1, k', n', o + 1, by omega, by go_num, (fun h => by omega), E2.out, HZ.out⟩
          case measure => simp [intOf]; omega
        · have hm8 : ((a : Int) % 8 != 0) = false := by simp; omega
          have HFx := Lib.hid (fun W => HF.out W k' n' 0 hk5 hk1' (a : Int) hstart (fun h => by have := h3 h; omega) (fun h => by have := h4 h; omega) (fun h => by have := h5 h; omega) h2 hn1)
          clear hstart h3 h4 h5 h2 hk1' hmod
          rcases hlater with hk | ⟨rfl, hn⟩
          · have z1 : ((k' : Int) == (k : Int)) = false := by simp; omega
            go_wp2_with fail
            refine (HWy.out _).mono ?_
            rintro e w3 ⟨rfl, hb⟩
            have HS3 := Lib.hid (HS.out.below hb)
            have hlt3 : D < w3.heap.size := (Array.getElem?_eq_some_iff.1 HS3.out.res).1
            have hlt3' : w.heap.size < w3.heap.size := by omega
            clear hb g0 g1 g2 r0 r1 r2 s0 s1 s2 HS
            obtain ⟨r0, r1, r2, s0, s1, s2⟩ := blk3 HS3.out.res
            obtain ⟨g0, g1, g2, _, _, _⟩ := blk3 HS3.out.geo
            go_wp2_with fail
            refine (HFx.out _).mono ?_
            rintro e w4 ⟨rfl, hb⟩
            have hx4 := blk_below (heap_alloc_new w3 _) hb
            have HS4 := Lib.hid ((HS3.out.below ((Below.refl _ _).alloc (Nat.le_refl _) _)).below hb)
            clear hb r0 r1 r2 s0 s1 s2 g0 g1 g2 HS3
            obtain ⟨r0, r1, r2, s0, s1, s2⟩ := blk3 HS4.out.res
            obtain ⟨g0, g1, g2, _, _, _⟩ := blk3 hx4
            clear hx4
            have HZ := Lib.hid (HS4.out.set hlt k' n' 0)
            go_wp2
            go_roundw
            case rel => exact ⟨a + 1, k', n', 0, by omega, by go_num, (fun h => by omega), E2.out, HZ.out⟩
            case measure => simp [intOf]; omega
          · have z1 : ((k : Int) == (k : Int)) = true := by simp
            have z2 : ((n' : Int) == (n : Int)) = false := by simp; omega
            go_wp2_with fail
            refine (HWy.out _).mono ?_
            rintro e w3 ⟨rfl, hb⟩
            have HS3 := Lib.hid (HS.out.below hb)
            have hlt3 : D < w3.heap.size := (Array.getElem?_eq_some_iff.1 HS3.out.res).1
            have hlt3' : w.heap.size < w3.heap.size := by omega
            clear hb g0 g1 g2 r0 r1 r2 s0 s1 s2 HS
            obtain ⟨r0, r1, r2, s0, s1, s2⟩ := blk3 HS3.out.res
            obtain ⟨g0, g1, g2, _, _, _⟩ := blk3 HS3.out.geo
            go_wp2_with fail
            refine (HFx.out _).mono ?_
            rintro e w4 ⟨rfl, hb⟩
            have hx4 := blk_below (heap_alloc_new w3 _) hb
            have HS4 := Lib.hid ((HS3.out.below ((Below.refl _ _).alloc (Nat.le_refl _) _)).below hb)
            clear hb r0 r1 r2 s0 s1 s2 g0 g1 g2 HS3
            obtain ⟨r0, r1, r2, s0, s1, s2⟩ := blk3 HS4.out.res
            obtain ⟨g0, g1, g2, _, _, _⟩ := blk3 hx4
            clear hx4
            have HZ := Lib.hid (HS4.out.set hlt k n' 0)
            go_wp2
            go_roundw
            case rel => exact ⟨a + 1, k, n', 0, by omega, by go_num, (fun h => by omega), E2.out, HZ.out⟩
            case measure => simp [intOf]; omega
      · obtain rfl : a = 8 * L := by omega
        have hl := Hpre.out (8 * L - 1) (by omega)
        rw [show ((8 * L - 1 : Nat) : Int) = 8 * (L : Int) - 1 by omega, Hlast.out] at hl
        injection hl with q1 q2
        injection q2 with q2 q3
        obtain rfl : k = 5 := by omega
        obtain rfl : n = B := by omega
        obtain rfl : o = 31 := by omega
        clear q1 q2 q3 Hpre H0 ha
        have hge : decide ((8 * L : Nat) < (8 * L : Nat)) = false := by simp
        have zB : ((n : Int) == (n : Int)) = true := by simp
        obtain ⟨g0, g1, g2, _, _, _⟩ := blk3 HS.out.geo
        go_wp2_with fail
        refine (HE.out _).mono ?_
        rintro e w3 ⟨rfl, hb⟩
        have HS3 := Lib.hid (HS.out.below hb)
        have hlt3 : w.heap.size < w3.heap.size := (Array.getElem?_eq_some_iff.1 HS3.out.geo).1
        clear hb g0 g1 g2 HS
        obtain ⟨g0, g1, g2, _, _, _⟩ := blk3 HS3.out.geo
        go_wp2_with fail
        refine (HN.out _).mono ?_
        rintro e w4 ⟨rfl, hb⟩
        have HS4 := Lib.hid ((HS3.out.below ((Below.refl _ _).alloc (Nat.le_refl _) _)).below hb)
        have hlt4 : D < w4.heap.size := (Array.getElem?_eq_some_iff.1 HS4.out.res).1
        have hlt4' : w.heap.size < w4.heap.size := by omega
        clear hb g0 g1 g2 HS3
        obtain ⟨g0, g1, g2, _, _, _⟩ := blk3 HS4.out.geo
        obtain ⟨r0, r1, r2, s0, s1, s2⟩ := blk3 HS4.out.res
        go_wp2_with fail
        refine (HA.out _).mono ?_
        rintro e w5 ⟨rfl, hb⟩
        have hb5 := below_on (below_alloc HS4.out.bel (Nat.le_refl _) _) (Nat.le_refl _) hb
        clear hb
        go_wp2
        go_ret
        exact ⟨rfl, hb5⟩
  · have HLn := Lib.hid (fun W => Lines_arg P I B hm W)
    unfold gv at HLn ⊢
    clear hm hP hI hB
    go_enter Try.func6, Try.ntmps6
    go_wp2_with fail
    refine (HLn.out _).mono ?_
    rintro e w1 ⟨rfl, hb⟩
    have HB1 := Lib.hid (below_on HBx.out (Nat.le_refl _) hb)
    clear hb HGx HBx
    go_wp2_with fail
    refine (HA.out _).mono ?_
    rintro e w2 ⟨rfl, hb⟩
    have hb2 := below_on HB1.out (Nat.le_refl _) hb
    clear hb
    go_wp2
    go_ret
    exact ⟨rfl, hb2⟩
end Go.Proofs.Ytpjhjpcajdbinaa
