/- The walk of the law InodeRoom. -/
import Derived.Test.YtnpmepklgakaiaaDoorInodeAlive
import Derived.Test.YtnpmepklgakaiaaDoorInodeJ
namespace Go.Proofs.YtnpmepklgakaiaaDoor
open Go.RowKit
set_option linter.unusedVariables false

set_option maxRecDepth 100000 in
set_option maxHeartbeats 8000000 in
theorem inodeRoom_walk (w : World) (hg : Laid w) (x : Ino) (hx : OkI x) (P I B : Int) (hP : I64 P) (hI : I64 I) (hB : I64 B) (n : Nat) (hn : n < 256) (m : Nat) (hm : m < 256) :
    Calls Tryd.prog 6 #[iv x, gv P I B, .int .u8 (n : Nat), .int .u8 (m : Nat)] w fun e w' => e = .returned (.bool true) ∧ Below w.heap.size w w' := by
  have HG := Lib.hid hg
  have HA := Lib.hid (fun W (hW : Below w.heap.size w W) => alive_any W (HG.out.below hW))
  obtain ⟨hB1, hB2⟩ := boxes2 x P I B w
  have HB0 := Lib.hid (((Below.refl w.heap.size w).alloc (Nat.le_refl _) (.cells (icells x) 25)).alloc (by simp) (.cells #[.int .i64 P, .int .i64 I, .int .i64 B] 27))
  have HM := Lib.hid (May_any x hx P I B)
  clear hg hP hI hB
  cases hmay : mayI x P I B with
  | false =>
    rw [hmay] at HM
    obtain ⟨k, ln, gn, sz, ar, mp, h0, h1, h2, h3, pa, mt, ct⟩ := x
    unfold iv gv icells at HM
    unfold icells at HB0 hB1 hB2
    unfold iv gv icells
    dsimp only at HM HB0 hB1 hB2 ⊢
    clear hB1 hB2 hx hmay
    go_enter Tryd.func6, Tryd.ntmps6
    go_wp2_with fail
    refine (HM.out _).mono ?_
    rintro e w1 ⟨rfl, hb1⟩
    have HB1 := Lib.hid (below_then HB0.out hb1)
    clear hb1
    go_wp2_with fail
    refine (HA.out _ HB1.out).mono ?_
    rintro e w2 ⟨rfl, hb2⟩
    have HB2 := Lib.hid (below_then HB1.out hb2)
    clear hb2
    go_wp2
    go_ret
    exact ⟨rfl, HB2.out⟩
  | true =>
    rw [hmay] at HM
    have hMG := ((mayI_iff x hx P I B).1 hmay).2.1
    obtain ⟨m1, m2, m3, m4, m5, m6⟩ := hMG
    have HE1 := Lib.hid (Encode_yes x hx P I B hmay)
    have HE2 := Lib.hid (fun (I' B' : Int) (q1 : I ≤ I') (q2 : B ≤ B') (q3 : I' ≤ 64) (q4 : B' ≤ 255) => Encode_yes x hx P I' B' (mayI_mono x hx P I B P I' B' hmay q1 q2 ⟨m1, m2, by omega, q3, by omega, q4⟩))
    have HL := Lib.hid (show (sealed (ofI x).1).length = 8 by rw [sealed_len, (ofI_ok x).1])
    generalize sealed (ofI x).1 = L at *
    have HR0 := Lib.hid hB1
    have HG0 := Lib.hid hB2
    obtain ⟨k, ln, gn, sz, ar, mp, h0, h1, h2, h3, pa, mt, ct⟩ := x
    unfold iv gv icells at HM HE1 HE2
    unfold icells at HB0 HR0 HG0
    unfold iv gv icells
    dsimp only at HM HE1 HE2 HB0 HR0 HG0 ⊢
    clear hB1 hB2
    go_enter Tryd.func6, Tryd.ntmps6
    go_wp2_with fail
    refine (HM.out _).mono ?_
    rintro e w1 ⟨rfl, hb1⟩
    have HB1 := Lib.hid (below_then HB0.out hb1)
    have hr1 := (hb1.block _ (by simp; omega)).trans HR0.out
    have hg1 := (hb1.block _ (by simp)).trans HG0.out
    obtain ⟨g0, g1, g2, _, _, _⟩ := blk3 hg1
    obtain ⟨c0, c1, c2, c3, c4, c5, c6, c7, c8, c9, c10, c11, c12⟩ := blk13 hr1
    have hltr := lt_of_block hr1
    have hltg := lt_of_block hg1
    have HR1 := Lib.hid hr1
    clear hb1 hr1 hg1
    go_wp2_with fail
    all_goals refine (HE1.out _).mono ?_
    all_goals rintro e w2 ⟨A2, l2, rfl, ho2, hb2⟩
    all_goals have hh2 := blk_below (heap_alloc_new w1 _) hb2
    all_goals have HS2 := Lib.hid (Rd.of_own ho2)
    all_goals have HB2 := Lib.hid (below_then (HB1.out.alloc HB1.out.size _) hb2)
    all_goals have hr2 := blk_below ((heap_alloc_old w1 _ hltr).trans HR1.out) hb2
    all_goals clear ho2 hb2 g0 g1 g2 c0 c1 c2 c3 c4 c5 c6 c7 c8 c9 c10 c11 c12
    all_goals obtain ⟨g0, g1, g2, _, _, _⟩ := blk3 hh2
    all_goals obtain ⟨c0, c1, c2, c3, c4, c5, c6, c7, c8, c9, c10, c11, c12⟩ := blk13 hr2
    all_goals clear hh2 hr2
    all_goals go_wp2_with fail
    all_goals refine (HE2.out _ _ (by omega) (by omega) (by omega) (by omega) _).mono ?_
    all_goals rintro e w3 ⟨A3, l3, rfl, ho3, hb3⟩
    all_goals have HS3 := Lib.hid (Rd.of_own ho3)
    all_goals have HS2' := Lib.hid (HS2.out.below hb3)
    all_goals have HB3 := Lib.hid (below_then HB2.out hb3)
    all_goals clear ho3 hb3 g0 g1 g2 c0 c1 c2 c3 c4 c5 c6 c7 c8 c9 c10 c11 c12
    all_goals go_wp2_with fail
    all_goals refine (sameW_yes _ _ L 8 HL.out _ HS2'.out HS3.out).mono ?_
    all_goals rintro e w4 ⟨rfl, hb4⟩
    all_goals have HB4 := Lib.hid (below_then HB3.out hb4)
    all_goals clear hb4
    all_goals go_wp2_with fail
    all_goals refine (HA.out _ HB4.out).mono ?_
    all_goals rintro e w5 ⟨rfl, hb5⟩
    all_goals have HB5 := Lib.hid (below_then HB4.out hb5)
    all_goals clear hb5
    all_goals go_wp2
    all_goals go_ret
    all_goals exact ⟨rfl, HB5.out⟩
end Go.Proofs.YtnpmepklgakaiaaDoor
