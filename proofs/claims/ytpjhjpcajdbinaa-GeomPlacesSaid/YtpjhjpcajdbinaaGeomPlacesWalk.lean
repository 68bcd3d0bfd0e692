/- The walk of the law GeomPlaces. -/
import Derived.Test.YtpjhjpcajdbinaaGeomAlive
import Derived.Test.YtpjhjpcajdbinaaGeomRefB
namespace Go.Proofs.Ytpjhjpcajdbinaa
open Go.RowKit
set_option linter.unusedVariables false

/-- what the code answers where a region begins there, or where there is none -/
def outOf (o : Option Nat) : Int × Int := match o with | some x => ((x : Int), 0) | none => (0, 3)
theorem inode_out (P I B : Nat) (h : MayG P I B) (n : Int) : inodeOut P I B n = outOf (placeTo P I 3 n (2 + I + P + B)) := by
  unfold inodeOut placeOut
  rw [if_pos h, place_inode, most2_eq]
  by_cases hn : 1 ≤ n ∧ n ≤ I
  · rw [if_neg (by omega), if_pos hn]
    refine Prod.ext ?_ rfl
    show _ = ((8 * (2 + (n.toNat - 1)) : Nat) : Int)
    simp only
    omega
  · rw [if_pos (by omega), if_neg hn]
    rfl
theorem slot_out (P I B : Nat) (h : MayG P I B) (n : Int) : slotOut P I B n = outOf (placeTo P I 4 n (2 + I + P + B)) := by
  unfold slotOut placeOut
  rw [if_pos h, place_slot]
  by_cases hn : 0 ≤ n ∧ n < P
  · rw [if_neg (by omega), if_pos hn]
    refine Prod.ext ?_ rfl
    show _ = ((8 * (2 + I + 17 * n.toNat) : Nat) : Int)
    simp only
    omega
  · rw [if_pos (by omega), if_neg hn]
    rfl
theorem block_out (P I B : Nat) (h : MayG P I B) (n : Int) : blockOut P I B n = outOf (placeTo P I 5 n (2 + I + P + B)) := by
  unfold blockOut placeOut
  rw [if_pos h, place_block, most2_eq]
  by_cases hn : 1 ≤ n ∧ n ≤ B
  · rw [if_neg (by omega), if_pos hn]
    refine Prod.ext ?_ rfl
    show _ = ((8 * (2 + I + 17 * P + 4 * (n.toNat - 1)) : Nat) : Int)
    simp only
    omega
  · rw [if_pos (by omega), if_neg hn]
    rfl

set_option maxHeartbeats 2000000 in
theorem placed_yes (P I B : Nat) (hP : P ≤ 8) (hI : 2 ≤ I) (hI2 : I ≤ 64) (hB : B ≤ 255) (kind : Nat) (hk : kind < 256) (n : Int) (w : World) :
    Calls Try.prog 18 #[gv P I B, .int .u8 kind, .int .i64 n, .int .i64 (outOf (placeTo P I kind n (2 + I + P + B))).1, .int .i64 (outOf (placeTo P I kind n (2 + I + P + B))).2] w
      fun e w' => e = .returned (.bool true) ∧ Below w.heap.size w w' := by
  have HP := Lib.hid (fun W => Place_any P I B hP hI hI2 hB kind hk n W)
  unfold gv at HP ⊢
  have hbx : Below w.heap.size w (w.alloc (.cells #[.int .i64 P, .int .i64 I, .int .i64 B] 23)) := (Below.refl _ _).alloc (Nat.le_refl _) _
  have HBx := Lib.hid hbx
  clear hbx
  generalize placeTo P I kind n (2 + I + P + B) = o at *
  cases o with
  | none =>
    unfold placeV at HP
    unfold outOf
    dsimp only at HP ⊢
    go_enter Try.func18, Try.ntmps18
    go_wp2_with fail
    refine (HP.out _).mono ?_
    rintro e w1 ⟨rfl, hb⟩
    have hb1 := below_on HBx.out (Nat.le_refl _) hb
    clear hb
    go_wp2
    go_ret
    exact ⟨rfl, hb1⟩
  | some x =>
    unfold placeV at HP
    unfold outOf
    dsimp only at HP ⊢
    have hd : ((x : Int) == (x : Int)) = true := by simp
    go_enter Try.func18, Try.ntmps18
    go_wp2_with fail
    refine (HP.out _).mono ?_
    rintro e w1 ⟨rfl, hb⟩
    have hb1 := below_on HBx.out (Nat.le_refl _) hb
    clear hb
    go_wp2
    go_ret
    exact ⟨rfl, hb1⟩

set_option maxHeartbeats 4000000 in
theorem geomPlaces_walk (w : World) (P I B : Int) (hP : I64 P) (hI : I64 I) (hB : I64 B) (n : Int) (hn1 : -9223372036854775808 ≤ n) (hn2 : n ≤ 9223372036854775807) :
    Calls Try.prog 5 #[gv P I B, .int .i64 n] w fun e w' => e = .returned (.bool true) ∧ Below w.heap.size w w' := by
  have hbx : Below w.heap.size w (w.alloc (.cells #[.int .i64 P, .int .i64 I, .int .i64 B] 23)) := (Below.refl _ _).alloc (Nat.le_refl _) _
  have hgx := heap_alloc_new w (.cells #[.int .i64 P, .int .i64 I, .int .i64 B] 23)
  have HBx := Lib.hid hbx
  have HGx := Lib.hid hgx
  clear hbx hgx
  have HA := Lib.hid alive_any
  have HLn := Lib.hid (fun W => Lines_any P I B W)
  have HIn := Lib.hid (fun W => Inode_any P I B n ⟨hn1, hn2⟩ W)
  have HSl := Lib.hid (fun W => Slot_any P I B n hI W)
  have HBl := Lib.hid (fun W => Block_any P I B n hI ⟨hn1, hn2⟩ W)
  by_cases hm : MayG P I B
  · have HC := Lib.hid (fun W => Check_yes P I B hm W)
    have HM := Lib.hid (fun W => refMay_yes P I B hm W)
    obtain ⟨P, rfl⟩ := Int.eq_ofNat_of_zero_le (show 0 ≤ P by have := hm.1; omega)
    obtain ⟨I, rfl⟩ := Int.eq_ofNat_of_zero_le (show 0 ≤ I by have := hm.2.2.1; omega)
    obtain ⟨B, rfl⟩ := Int.eq_ofNat_of_zero_le (show 0 ≤ B by have := hm.2.2.2.2.1; omega)
    rw [inode_out P I B hm] at HIn
    rw [slot_out P I B hm] at HSl
    rw [block_out P I B hm] at HBl
    have hll : linesOut P I B = (((2 + I + 17 * P + 4 * B : Nat) : Int), 0) := by
      unfold linesOut linesOf
      rw [if_pos hm]
      refine Prod.ext ?_ rfl
      simp only
      omega
    rw [hll] at HLn
    obtain ⟨m1, m2, m3, m4, m5, m6⟩ := hm
    have HW := Lib.hid (fun W => Words_any P I B (by omega) (by omega) (by omega) (by omega) W)
    have HP3 := Lib.hid (fun W => placed_yes P I B (by omega) (by omega) (by omega) (by omega) 3 (by omega) n W)
    have HP4 := Lib.hid (fun W => placed_yes P I B (by omega) (by omega) (by omega) (by omega) 4 (by omega) n W)
    have HP5 := Lib.hid (fun W => placed_yes P I B (by omega) (by omega) (by omega) (by omega) 5 (by omega) n W)
    have hL : 2 + I + 17 * P + 4 * B ≤ 5000 := by omega
    generalize 2 + I + 17 * P + 4 * B = L at *
    generalize outOf (placeTo P I 3 n (2 + I + P + B)) = T3 at *
    generalize outOf (placeTo P I 4 n (2 + I + P + B)) = T4 at *
    generalize outOf (placeTo P I 5 n (2 + I + P + B)) = T5 at *
    obtain ⟨a3, e3⟩ := T3
    obtain ⟨a4, e4⟩ := T4
    obtain ⟨a5, e5⟩ := T5
    dsimp only at HLn HIn HSl HBl HP3 HP4 HP5
    unfold gv at HC HM HLn HIn HSl HBl HW HP3 HP4 HP5 ⊢
    clear hll m1 m2 m3 m4 m5 m6 hP hI hB
    have hLd : ((8 * (L : Int)) == ((8 * L : Nat) : Int)) = true := by simp
    have hLd2 : ((8 * (L : Int)) == (8 * (L : Int))) = true := by simp
    go_enter Try.func5, Try.ntmps5
    go_wp2_with fail
    refine (HLn.out _).mono ?_
    rintro e w1 ⟨rfl, hb⟩
    have HG1 := Lib.hid (blk_below HGx.out hb)
    have HB1 := Lib.hid (below_on HBx.out (Nat.le_refl _) hb)
    clear hb HGx HBx
    obtain ⟨g0, g1, g2, _, _, _⟩ := blk3 HG1.out
    go_wp2_with fail
    refine (HIn.out _).mono ?_
    rintro e w2 ⟨rfl, hb⟩
    have HG2 := Lib.hid (blk_below HG1.out hb)
    have HB2 := Lib.hid (below_on HB1.out (Nat.le_refl _) hb)
    clear hb HG1 HB1 g0 g1 g2
    obtain ⟨g0, g1, g2, _, _, _⟩ := blk3 HG2.out
    go_wp2_with fail
    refine (HSl.out _).mono ?_
    rintro e w3 ⟨rfl, hb⟩
    have HG3 := Lib.hid (blk_below HG2.out hb)
    have HB3 := Lib.hid (below_on HB2.out (Nat.le_refl _) hb)
    clear hb HG2 HB2 g0 g1 g2
    obtain ⟨g0, g1, g2, _, _, _⟩ := blk3 HG3.out
    go_wp2_with fail
    refine (HBl.out _).mono ?_
    rintro e w4 ⟨rfl, hb⟩
    have HG4 := Lib.hid (blk_below HG3.out hb)
    have HB4 := Lib.hid (below_on HB3.out (Nat.le_refl _) hb)
    clear hb HG3 HB3 g0 g1 g2
    obtain ⟨g0, g1, g2, _, _, _⟩ := blk3 HG4.out
    go_wp2_with fail
    refine (HM.out _).mono ?_
    rintro e w5 ⟨rfl, hb⟩
    have HG5 := Lib.hid (blk_below HG4.out hb)
    have HB5 := Lib.hid (below_on HB4.out (Nat.le_refl _) hb)
    clear hb HG4 HB4 g0 g1 g2
    obtain ⟨g0, g1, g2, _, _, _⟩ := blk3 HG5.out
    go_wp2_with fail
    refine (HC.out _).mono ?_
    rintro e w6 ⟨rfl, hb⟩
    have HG6 := Lib.hid (blk_below HG5.out hb)
    have HB6 := Lib.hid (below_on HB5.out (Nat.le_refl _) hb)
    clear hb HG5 HB5 g0 g1 g2
    obtain ⟨g0, g1, g2, _, _, _⟩ := blk3 HG6.out
    go_wp2_with fail
    refine (HW.out _).mono ?_
    rintro e w7 ⟨rfl, hb⟩
    have HG7 := Lib.hid (blk_below HG6.out hb)
    have HB7 := Lib.hid (below_on HB6.out (Nat.le_refl _) hb)
    clear hb HG6 HB6 g0 g1 g2
    obtain ⟨g0, g1, g2, _, _, _⟩ := blk3 HG7.out
    go_wp2_with fail
    refine (HP3.out _).mono ?_
    rintro e w8 ⟨rfl, hb⟩
    have HG8 := Lib.hid (blk_below HG7.out hb)
    have HB8 := Lib.hid (below_on HB7.out (Nat.le_refl _) hb)
    clear hb HG7 HB7 g0 g1 g2
    obtain ⟨g0, g1, g2, _, _, _⟩ := blk3 HG8.out
    go_wp2_with fail
    refine (HP4.out _).mono ?_
    rintro e w9 ⟨rfl, hb⟩
    have HG9 := Lib.hid (blk_below HG8.out hb)
    have HB9 := Lib.hid (below_on HB8.out (Nat.le_refl _) hb)
    clear hb HG8 HB8 g0 g1 g2
    obtain ⟨g0, g1, g2, _, _, _⟩ := blk3 HG9.out
    go_wp2_with fail
    refine (HP5.out _).mono ?_
    rintro e w10 ⟨rfl, hb⟩
    have HB10 := Lib.hid (below_on HB9.out (Nat.le_refl _) hb)
    clear hb HG9 HB9 g0 g1 g2
    go_wp2_with fail
    refine (HA.out _).mono ?_
    rintro e w11 ⟨rfl, hb⟩
    have hb11 := below_on HB10.out (Nat.le_refl _) hb
    clear hb
    go_wp2
    go_ret
    exact ⟨rfl, hb11⟩
  · have HC := Lib.hid (fun W => Check_no P I B hm W)
    have HM := Lib.hid (fun W => refMay_no P I B hm W)
    have e0 : linesOut P I B = (0, 2) := by unfold linesOut; rw [if_neg hm]
    have e1 : inodeOut P I B n = (0, 2) := by unfold inodeOut placeOut; rw [if_neg hm]
    have e2 : slotOut P I B n = (0, 2) := by unfold slotOut placeOut; rw [if_neg hm]
    have e3 : blockOut P I B n = (0, 2) := by unfold blockOut placeOut; rw [if_neg hm]
    rw [e0] at HLn
    rw [e1] at HIn
    rw [e2] at HSl
    rw [e3] at HBl
    unfold gv at HC HM HLn HIn HSl HBl ⊢
    clear e0 e1 e2 e3 hm hP hI hB
    go_enter Try.func5, Try.ntmps5
    go_wp2_with fail
    refine (HLn.out _).mono ?_
    rintro e w1 ⟨rfl, hb⟩
    have HG1 := Lib.hid (blk_below HGx.out hb)
    have HB1 := Lib.hid (below_on HBx.out (Nat.le_refl _) hb)
    clear hb HGx HBx
    obtain ⟨g0, g1, g2, _, _, _⟩ := blk3 HG1.out
    go_wp2_with fail
    refine (HIn.out _).mono ?_
    rintro e w2 ⟨rfl, hb⟩
    have HG2 := Lib.hid (blk_below HG1.out hb)
    have HB2 := Lib.hid (below_on HB1.out (Nat.le_refl _) hb)
    clear hb HG1 HB1 g0 g1 g2
    obtain ⟨g0, g1, g2, _, _, _⟩ := blk3 HG2.out
    go_wp2_with fail
    refine (HSl.out _).mono ?_
    rintro e w3 ⟨rfl, hb⟩
    have HG3 := Lib.hid (blk_below HG2.out hb)
    have HB3 := Lib.hid (below_on HB2.out (Nat.le_refl _) hb)
    clear hb HG2 HB2 g0 g1 g2
    obtain ⟨g0, g1, g2, _, _, _⟩ := blk3 HG3.out
    go_wp2_with fail
    refine (HBl.out _).mono ?_
    rintro e w4 ⟨rfl, hb⟩
    have HG4 := Lib.hid (blk_below HG3.out hb)
    have HB4 := Lib.hid (below_on HB3.out (Nat.le_refl _) hb)
    clear hb HG3 HB3 g0 g1 g2
    obtain ⟨g0, g1, g2, _, _, _⟩ := blk3 HG4.out
    go_wp2_with fail
    refine (HM.out _).mono ?_
    rintro e w5 ⟨rfl, hb⟩
    have HG5 := Lib.hid (blk_below HG4.out hb)
    have HB5 := Lib.hid (below_on HB4.out (Nat.le_refl _) hb)
    clear hb HG4 HB4 g0 g1 g2
    obtain ⟨g0, g1, g2, _, _, _⟩ := blk3 HG5.out
    go_wp2_with fail
    refine (HC.out _).mono ?_
    rintro e w6 ⟨rfl, hb⟩
    have HB6 := Lib.hid (below_on HB5.out (Nat.le_refl _) hb)
    clear hb HG5 HB5 g0 g1 g2
    go_wp2_with fail
    refine (HA.out _).mono ?_
    rintro e w7 ⟨rfl, hb⟩
    have hb7 := below_on HB6.out (Nat.le_refl _) hb
    clear hb
    go_wp2
    go_ret
    exact ⟨rfl, hb7⟩
end Go.Proofs.Ytpjhjpcajdbinaa
