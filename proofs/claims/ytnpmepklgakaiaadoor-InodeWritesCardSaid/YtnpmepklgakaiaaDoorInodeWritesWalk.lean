/- The walk of the law InodeWrites. -/
import Derived.Test.YtnpmepklgakaiaaDoorInodeRefN
namespace Go.Proofs.YtnpmepklgakaiaaDoor
open Go.RowKit
set_option linter.unusedVariables false

theorem refMay_any (x : Ino) (hx : OkI x) (P I B : Int) (W : World) :
    Calls Tryd.prog 8 #[iv x, gv P I B] W fun e W' => e = .returned (.bool (mayI x P I B)) ∧ Below W.heap.size W W' := by
  by_cases h : SmallI x
  · exact refMay_good x hx h P I B W
  · have hm : mayI x P I B = false := by
      cases hm : mayI x P I B with
      | false => rfl
      | true => exact (h ((mayI_iff x hx P I B).1 hm).1).elim
    rw [hm]
    exact refMay_bad x.k x.ln x.gn x.sz x.ar x.mp x.h0 x.h1 x.h2 x.h3 x.pa x.mt x.ct h P I B W

set_option maxRecDepth 100000 in
set_option maxHeartbeats 8000000 in
theorem inodeWrites_walk (w : World) (hg : Laid w) (x : Ino) (hx : OkI x) (P I B : Int) (hP : I64 P) (hI : I64 I) (hB : I64 B) :
    Calls Tryd.prog 3 #[iv x, gv P I B] w fun e w' => e = .returned (.bool true) ∧ Below w.heap.size w w' := by
  have HG := Lib.hid hg
  have HA := Lib.hid (fun W (hW : Below w.heap.size w W) => alive_any W (HG.out.below hW))
  obtain ⟨hB1, hB2⟩ := boxes2 x P I B w
  have HB0 := Lib.hid (((Below.refl w.heap.size w).alloc (Nat.le_refl _) (.cells (icells x) 25)).alloc (by simp) (.cells #[.int .i64 P, .int .i64 I, .int .i64 B] 27))
  have HM := Lib.hid (May_any x hx P I B)
  have HR := Lib.hid (refMay_any x hx P I B)
  have HX0 := Lib.hid hB1
  have HG0 := Lib.hid hB2
  clear hg hP hI hB hB1 hB2
  cases hmay : mayI x P I B with
  | false =>
    rw [hmay] at HM HR
    have HE := Lib.hid (Encode_no x hx P I B hmay)
    clear hx hmay
    obtain ⟨k, ln, gn, sz, ar, mp, h0, h1, h2, h3, pa, mt, ct⟩ := x
    unfold iv gv icells at HM HR HE
    unfold icells at HB0 HX0 HG0
    unfold iv gv icells
    dsimp only at HM HR HE HB0 HX0 HG0 ⊢
    go_enter Tryd.func3, Tryd.ntmps3
    go_wp2_with fail
    refine (HE.out _).mono ?_
    rintro e w1 ⟨rfl, hb1⟩
    have HB1 := Lib.hid (below_then HB0.out hb1)
    have HX1 := Lib.hid (blk_below HX0.out hb1)
    have HG1 := Lib.hid (blk_below HG0.out hb1)
    obtain ⟨g0, g1, g2, _, _, _⟩ := blk3 HG1.out
    obtain ⟨c0, c1, c2, c3, c4, c5, c6, c7, c8, c9, c10, c11, c12⟩ := blk13 HX1.out
    clear hb1
    go_wp2_with fail
    refine (HR.out _).mono ?_
    rintro e w2 ⟨rfl, hb2⟩
    have HB2 := Lib.hid (below_then HB1.out hb2)
    clear g0 g1 g2 c0 c1 c2 c3 c4 c5 c6 c7 c8 c9 c10 c11 c12
    obtain ⟨g0, g1, g2, _, _, _⟩ := blk3 (blk_below HG1.out hb2)
    obtain ⟨c0, c1, c2, c3, c4, c5, c6, c7, c8, c9, c10, c11, c12⟩ := blk13 (blk_below HX1.out hb2)
    clear hb2
    go_wp2_with fail
    refine (HM.out _).mono ?_
    rintro e w3 ⟨rfl, hb3⟩
    have HB3 := Lib.hid (below_then HB2.out hb3)
    clear hb3 g0 g1 g2 c0 c1 c2 c3 c4 c5 c6 c7 c8 c9 c10 c11 c12
    go_wp2_with fail
    refine (HA.out _ HB3.out).mono ?_
    rintro e w4 ⟨rfl, hb4⟩
    have HB4 := Lib.hid (below_then HB3.out hb4)
    clear hb4
    go_wp2
    go_ret
    exact ⟨rfl, HB4.out⟩
  | true =>
    rw [hmay] at HM HR
    have hS := ((mayI_iff x hx P I B).1 hmay).1
    have HE := Lib.hid (Encode_yes x hx P I B hmay)
    rw [ofI_words x hx hS] at HE
    have HQ := Lib.hid (refEncode_any x hx hS)
    have HL := Lib.hid (show (sealed (wordsI x)).length = 8 from rfl)
    dsimp only at HE
    generalize sealed (wordsI x) = L at *
    clear hx hmay hS
    obtain ⟨k, ln, gn, sz, ar, mp, h0, h1, h2, h3, pa, mt, ct⟩ := x
    unfold iv gv icells at HM HR HE
    unfold iv icells at HQ
    unfold icells at HB0 HX0 HG0
    unfold iv gv icells
    dsimp only at HM HR HE HQ HB0 HX0 HG0 ⊢
    go_enter Tryd.func3, Tryd.ntmps3
    go_wp2_with fail
    refine (HE.out _).mono ?_
    rintro e w1 ⟨A1, l1, rfl, ho1, hb1⟩
    have HB1 := Lib.hid (below_then HB0.out hb1)
    have HR1 := Lib.hid (Rd.of_own ho1)
    have HX1 := Lib.hid (blk_below HX0.out hb1)
    have HG1 := Lib.hid (blk_below HG0.out hb1)
    obtain ⟨g0, g1, g2, _, _, _⟩ := blk3 HG1.out
    obtain ⟨c0, c1, c2, c3, c4, c5, c6, c7, c8, c9, c10, c11, c12⟩ := blk13 HX1.out
    clear ho1 hb1
    go_wp2_with fail
    refine (HR.out _).mono ?_
    rintro e w2 ⟨rfl, hb2⟩
    have HB2 := Lib.hid (below_then HB1.out hb2)
    have HR2 := Lib.hid (HR1.out.below hb2)
    have HX2 := Lib.hid (blk_below HX1.out hb2)
    clear g0 g1 g2 c0 c1 c2 c3 c4 c5 c6 c7 c8 c9 c10 c11 c12
    obtain ⟨g0, g1, g2, _, _, _⟩ := blk3 (blk_below HG1.out hb2)
    obtain ⟨c0, c1, c2, c3, c4, c5, c6, c7, c8, c9, c10, c11, c12⟩ := blk13 HX2.out
    clear hb2
    go_wp2_with fail
    refine (HM.out _).mono ?_
    rintro e w3 ⟨rfl, hb3⟩
    have HB3 := Lib.hid (below_then HB2.out hb3)
    have HR3 := Lib.hid (HR2.out.below hb3)
    clear g0 g1 g2 c0 c1 c2 c3 c4 c5 c6 c7 c8 c9 c10 c11 c12
    obtain ⟨c0, c1, c2, c3, c4, c5, c6, c7, c8, c9, c10, c11, c12⟩ := blk13 (blk_below HX2.out hb3)
    clear hb3
    go_wp2_with fail
    refine (HQ.out _).mono ?_
    rintro e w4 ⟨A4, l4, rfl, ho4, hb4⟩
    have HB4 := Lib.hid (below_then HB3.out hb4)
    have HR4 := Lib.hid (HR3.out.below hb4)
    have HS4 := Lib.hid (Rd.of_own ho4)
    clear ho4 hb4 c0 c1 c2 c3 c4 c5 c6 c7 c8 c9 c10 c11 c12
    go_wp2_with fail
    refine (sameW_yes _ _ L 8 HL.out _ HR4.out HS4.out).mono ?_
    rintro e w5 ⟨rfl, hb5⟩
    have HB5 := Lib.hid (below_then HB4.out hb5)
    clear hb5
    go_wp2_with fail
    refine (HA.out _ HB5.out).mono ?_
    rintro e w6 ⟨rfl, hb6⟩
    have HB6 := Lib.hid (below_then HB5.out hb6)
    clear hb6
    go_wp2
    go_ret
    exact ⟨rfl, HB6.out⟩
end Go.Proofs.YtnpmepklgakaiaaDoor
