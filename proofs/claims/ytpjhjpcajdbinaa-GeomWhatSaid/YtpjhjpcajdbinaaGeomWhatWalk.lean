/- The walk of the law GeomWhat. -/
import Derived.Test.YtpjhjpcajdbinaaGeomAlive
import Derived.Test.YtpjhjpcajdbinaaGeomRefW
namespace Go.Proofs.Ytpjhjpcajdbinaa
open Go.RowKit
set_option linter.unusedVariables false

set_option maxHeartbeats 4000000 in
theorem geomWhat_walk (w : World) (P I B : Int) (hP : I64 P) (hI : I64 I) (hB : I64 B) (at_ : Int) (ha1 : -9223372036854775808 ≤ at_) (ha2 : at_ ≤ 9223372036854775807) :
    Calls Try.prog 3 #[gv P I B, .int .i64 at_] w fun e w' => e = .returned (.bool true) ∧ Below w.heap.size w w' := by
  have hbx : Below w.heap.size w (w.alloc (.cells #[.int .i64 P, .int .i64 I, .int .i64 B] 23)) := (Below.refl _ _).alloc (Nat.le_refl _) _
  have hgx := heap_alloc_new w (.cells #[.int .i64 P, .int .i64 I, .int .i64 B] 23)
  have HBx := Lib.hid hbx
  have HGx := Lib.hid hgx
  clear hbx hgx
  have hq := run_eqR
  have hg := guard_eqR
  have HA := Lib.hid alive_any
  by_cases hm : MayG P I B
  · by_cases hr : at_ < 0 ∨ 8 * linesOf P I B ≤ at_
    · have HW := Lib.hid (fun W => What_none P I B at_ hm hr W)
      have HM := Lib.hid (fun W => refMay_yes P I B hm W)
      have HN := Lib.hid (fun W => refWhat_none P I B at_ hm hr ⟨ha1, ha2⟩ W)
      unfold gv at HW HM HN ⊢
      clear hm hr hP hI hB
      go_enter Try.func3, Try.ntmps3
      go_wp2_with fail
      refine (HW.out _).mono ?_
      rintro e w1 ⟨rfl, hb⟩
      have HG1 := Lib.hid (blk_below HGx.out hb)
      have HB1 := Lib.hid (below_on HBx.out (Nat.le_refl _) hb)
      have hlt : w.heap.size < w1.heap.size := (Array.getElem?_eq_some_iff.1 HG1.out).1
      obtain ⟨g0, g1, g2, _, _, _⟩ := blk3 HG1.out
      clear hb
      go_wp2_with fail
      refine (HM.out _).mono ?_
      rintro e w2 ⟨rfl, hb⟩
      have hx2 := blk_below (heap_alloc_new w1 _) hb
      have HG2 := Lib.hid (blk_below (blk_below HG1.out ((Below.refl _ _).alloc (Nat.le_refl _) _)) hb)
      have HB2 := Lib.hid (below_on (below_alloc HB1.out (Nat.le_refl _) _) (Nat.le_refl _) hb)
      clear hb g0 g1 g2 HG1 HB1
      obtain ⟨g0, g1, g2, _, _, _⟩ := blk3 HG2.out
      go_wp2_with fail
      refine (HN.out _).mono ?_
      rintro e w3 ⟨rfl, hb⟩
      have hx3 := blk_below hx2 hb
      have hlt3 : w1.heap.size < w3.heap.size := (Array.getElem?_eq_some_iff.1 hx3).1
      have HB3 := Lib.hid (below_on HB2.out (Nat.le_refl _) hb)
      clear hb g0 g1 g2 HG2 HB2 hx2
      obtain ⟨g0, g1, g2, _, _, _⟩ := blk3 hx3
      clear hx3
      go_wp2_with fail
      refine (HA.out _).mono ?_
      rintro e w4 ⟨rfl, hb⟩
      have hb4 := below_on (below_alloc HB3.out (Nat.le_refl _) _) (Nat.le_refl _) hb
      clear hb
      go_wp2
      go_ret
      exact ⟨rfl, hb4⟩
    · have HW := Lib.hid (fun W => What_yes P I B at_ hm (by omega) (by omega) W)
      have HM := Lib.hid (fun W => refMay_yes P I B hm W)
      have HN := Lib.hid (fun W => refWhat_yes P I B at_ hm (by omega) (by omega) W)
      generalize regOf P I at_ = T at *
      obtain ⟨k, n, o⟩ := T
      dsimp only at HW HN
      unfold gv at HW HM HN ⊢
      clear hm hr hP hI hB
      go_enter Try.func3, Try.ntmps3
      go_wp2_with fail
      refine (HW.out _).mono ?_
      rintro e w1 ⟨rfl, hb⟩
      have HG1 := Lib.hid (blk_below HGx.out hb)
      have HB1 := Lib.hid (below_on HBx.out (Nat.le_refl _) hb)
      have hlt : w.heap.size < w1.heap.size := (Array.getElem?_eq_some_iff.1 HG1.out).1
      obtain ⟨g0, g1, g2, _, _, _⟩ := blk3 HG1.out
      clear hb
      go_wp2_with fail
      refine (HM.out _).mono ?_
      rintro e w2 ⟨rfl, hb⟩
      have hx2 := blk_below (heap_alloc_new w1 _) hb
      have HG2 := Lib.hid (blk_below (blk_below HG1.out ((Below.refl _ _).alloc (Nat.le_refl _) _)) hb)
      have HB2 := Lib.hid (below_on (below_alloc HB1.out (Nat.le_refl _) _) (Nat.le_refl _) hb)
      clear hb g0 g1 g2 HG1 HB1
      obtain ⟨g0, g1, g2, _, _, _⟩ := blk3 HG2.out
      go_wp2_with fail
      refine (HN.out _).mono ?_
      rintro e w3 ⟨rfl, hb⟩
      have hx3 := blk_below hx2 hb
      have hlt3 : w1.heap.size < w3.heap.size := (Array.getElem?_eq_some_iff.1 hx3).1
      have HB3 := Lib.hid (below_on HB2.out (Nat.le_refl _) hb)
      clear hb g0 g1 g2 HG2 HB2 hx2
      obtain ⟨g0, g1, g2, _, _, _⟩ := blk3 hx3
      clear hx3
      go_wp2_with fail
      refine (HA.out _).mono ?_
      rintro e w4 ⟨rfl, hb⟩
      have hb4 := below_on (below_alloc HB3.out (Nat.le_refl _) _) (Nat.le_refl _) hb
      clear hb
      go_wp2
      go_ret
      exact ⟨rfl, hb4⟩
  · have HW := Lib.hid (fun W => What_arg P I B at_ hm W)
    have HM := Lib.hid (fun W => refMay_no P I B hm W)
    unfold gv at HW HM ⊢
    clear hm hP hI hB
    go_enter Try.func3, Try.ntmps3
    go_wp2_with fail
    refine (HW.out _).mono ?_
    rintro e w1 ⟨rfl, hb⟩
    have HG1 := Lib.hid (blk_below HGx.out hb)
    have HB1 := Lib.hid (below_on HBx.out (Nat.le_refl _) hb)
    have hlt : w.heap.size < w1.heap.size := (Array.getElem?_eq_some_iff.1 HG1.out).1
    obtain ⟨g0, g1, g2, _, _, _⟩ := blk3 HG1.out
    clear hb
    go_wp2_with fail
    refine (HM.out _).mono ?_
    rintro e w2 ⟨rfl, hb⟩
    have hx2 := blk_below (heap_alloc_new w1 _) hb
    have HB2 := Lib.hid (below_on (below_alloc HB1.out (Nat.le_refl _) _) (Nat.le_refl _) hb)
    clear hb g0 g1 g2 HG1 HB1
    obtain ⟨g0, g1, g2, _, _, _⟩ := blk3 hx2
    go_wp2_with fail
    refine (HA.out _).mono ?_
    rintro e w4 ⟨rfl, hb⟩
    have hb4 := below_on HB2.out (Nat.le_refl _) hb
    clear hb
    go_wp2
    go_ret
    exact ⟨rfl, hb4⟩
end Go.Proofs.Ytpjhjpcajdbinaa
