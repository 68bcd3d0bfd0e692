/- The walk of the law SuperWrites. -/
import Derived.Test.YtfmjhmgpnlmkkaaDoorSuperAlive
import Derived.Test.YtfmjhmgpnlmkkaaDoorSuperE
namespace Go.Proofs.YtfmjhmgpnlmkkaaDoor
open Go.RowKit
set_option linter.unusedVariables false

set_option maxRecDepth 100000 in
set_option maxHeartbeats 8000000 in
theorem superWrites_walk (w : World) (hg : Laid w) (P I B : Int) (hP : I64 P) (hI : I64 I) (hB : I64 B) (high : Bool) :
    Calls Tryd.prog 3 #[gv P I B, .bool high] w fun e w' => e = .returned (.bool true) ∧ Below w.heap.size w w' := by
  have HG := Lib.hid hg
  have HA := Lib.hid (fun W (hW : Below w.heap.size w W) => alive_any W (HG.out.below hW))
  clear hg hP hI hB
  by_cases hmay : MayG P I B
  case neg =>
    have HE := Lib.hid (fun W => Encode_no P I B hmay high W)
    have HM := Lib.hid (fun W => refMay_no P I B hmay W)
    unfold gv at HE HM ⊢
    have HB0 := Lib.hid ((Below.refl _ w).alloc (Nat.le_refl _) (.cells #[.int .i64 P, .int .i64 I, .int .i64 B] 23))
    have HGe := Lib.hid (show (w.alloc (.cells #[.int .i64 P, .int .i64 I, .int .i64 B] 23)).heap[w.heap.size]? = some (.cells #[.int .i64 P, .int .i64 I, .int .i64 B] 23 (0, 0)) from heap_alloc_new w _)
    clear hmay
    go_enter Tryd.func3, Tryd.ntmps3
    go_wp2_with fail
    refine (HE.out _).mono ?_
    rintro e w1 ⟨rfl, hb1⟩
    have HB1 := Lib.hid (below_then HB0.out hb1)
    obtain ⟨a0, a1, a2, _, _, _⟩ := blk3 ((hb1.block _ (lt_of_block HGe.out)).trans HGe.out)
    clear hb1
    go_wp2_with fail
    refine (HM.out _).mono ?_
    rintro e w2 ⟨rfl, hb2⟩
    have HB2 := Lib.hid (below_then HB1.out hb2)
    clear hb2 a0 a1 a2
    go_wp2_with fail
    refine (HA.out _ HB2.out).mono ?_
    rintro e w3 ⟨rfl, hb3⟩
    have HB3 := Lib.hid (below_then HB2.out hb3)
    clear hb3
    go_wp2
    go_ret
    exact ⟨rfl, HB3.out⟩
  obtain ⟨p, rfl⟩ := Int.eq_ofNat_of_zero_le (show 0 ≤ P by have := hmay.1; omega)
  obtain ⟨i, rfl⟩ := Int.eq_ofNat_of_zero_le (show 0 ≤ I by have := hmay.2.2.1; omega)
  obtain ⟨b, rfl⟩ := Int.eq_ofNat_of_zero_le (show 0 ≤ B by have := hmay.2.2.2.2.1; omega)
  have hp : p < 65536 := by have := hmay.2.1; omega
  have hi : i < 65536 := by have := hmay.2.2.2.1; omega
  have hb : b < 65536 := by have := hmay.2.2.2.2.2; omega
  have HE := Lib.hid (fun W => Encode_yes p i b hmay high W)
  have HM := Lib.hid (fun W => refMay_yes (p : Nat) (i : Nat) (b : Nat) hmay W)
  have HRe := Lib.hid (fun W => refEncode_yes p i b hp hi hb high W)
  unfold gv at HE HM HRe ⊢
  have HB0 := Lib.hid ((Below.refl _ w).alloc (Nat.le_refl _) (.cells #[.int .i64 (p : Nat), .int .i64 (i : Nat), .int .i64 (b : Nat)] 23))
  have HGe := Lib.hid (show (w.alloc (.cells #[.int .i64 (p : Nat), .int .i64 (i : Nat), .int .i64 (b : Nat)] 23)).heap[w.heap.size]? = some (.cells #[.int .i64 (p : Nat), .int .i64 (i : Nat), .int .i64 (b : Nat)] 23 (0, 0)) from heap_alloc_new w _)
  clear hmay
  go_enter Tryd.func3, Tryd.ntmps3
  go_wp2_with fail
  refine (HE.out _).mono ?_
  rintro e w1 ⟨A1, c1, rfl, ho1, hb1⟩
  have HB1 := Lib.hid (below_then HB0.out hb1)
  have HGe1 := Lib.hid ((hb1.block _ (lt_of_block HGe.out)).trans HGe.out)
  have HR1 := Lib.hid (Rd.of_own ho1)
  obtain ⟨a0, a1, a2, _, _, _⟩ := blk3 HGe1.out
  clear hb1 ho1
  go_wp2_with fail
  refine (HM.out _).mono ?_
  rintro e w2 ⟨rfl, hb2⟩
  have HB2 := Lib.hid (below_then HB1.out hb2)
  have HR2 := Lib.hid (HR1.out.below hb2)
  clear a0 a1 a2
  obtain ⟨a0, a1, a2, _, _, _⟩ := blk3 ((hb2.block _ (lt_of_block HGe1.out)).trans HGe1.out)
  clear hb2
  go_wp2_with fail
  refine (HRe.out _).mono ?_
  rintro e w3 ⟨A3, c3, rfl, ho3, hb3⟩
  have HB3 := Lib.hid (below_then HB2.out hb3)
  have HR3 := Lib.hid (HR2.out.below hb3)
  have HX3 := Lib.hid (Rd.of_own ho3)
  clear hb3 ho3 a0 a1 a2
  go_wp2_with fail
  refine (sameW_yes _ _ (sealed (superL p i b high)) 8 rfl _ HR3.out HX3.out).mono ?_
  rintro e w4 ⟨rfl, hb4⟩
  have HB4 := Lib.hid (below_then HB3.out hb4)
  clear hb4
  go_wp2_with fail
  refine (HA.out _ HB4.out).mono ?_
  rintro e w5 ⟨rfl, hb5⟩
  have HB5 := Lib.hid (below_then HB4.out hb5)
  clear hb5
  go_wp2
  go_ret
  exact ⟨rfl, HB5.out⟩
end Go.Proofs.YtfmjhmgpnlmkkaaDoor
