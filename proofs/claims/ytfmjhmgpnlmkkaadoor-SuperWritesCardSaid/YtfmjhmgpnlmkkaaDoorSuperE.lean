/- parcloseref05.Encode. -/
import Derived.Test.YtfmjhmgpnlmkkaaDoorSuperC
import Derived.Test.YtfmjhmgpnlmkkaaDoorGeomBlk
namespace Go.Proofs.YtfmjhmgpnlmkkaaDoor
open Go.RowKit
set_option linter.unusedVariables false

set_option maxRecDepth 100000 in
set_option maxHeartbeats 8000000 in
theorem refEncode_yes (P I B : Nat) (hP : P < 65536) (hI : I < 65536) (hB : B < 65536) (high : Bool) (w : World) :
    Calls Tryd.prog 11 #[gv (P : Nat) (I : Nat) (B : Nat), .bool high] w (Hands w 42 1 8 (u64s (sealed (superL P I B high)))) := by
  obtain ⟨i0, hi, hz0, hz1, hz2⟩ := info_parts info64
  have hgeo : (w.alloc (.cells #[.int .i64 (P : Nat), .int .i64 (I : Nat), .int .i64 (B : Nat)] 23)).heap[w.heap.size]? = some (.cells #[.int .i64 (P : Nat), .int .i64 (I : Nat), .int .i64 (B : Nat)] 23 (0, 0)) := heap_alloc_new w _
  have HGe := Lib.hid hgeo
  have HB0 := Lib.hid ((Below.refl w.heap.size w).alloc (Nat.le_refl _) (.cells #[.int .i64 (P : Nat), .int .i64 (I : Nat), .int .i64 (B : Nat)] 23))
  have hw1 : IntKind.u64.wrap (P : Int) = (P : Int) := by rw [IntKind.wrap_u64]; omega
  have hw2 : IntKind.u64.wrap (I : Int) = (I : Int) := by rw [IntKind.wrap_u64]; omega
  have hw3 : IntKind.u64.wrap (B : Int) = (B : Int) := by rw [IntKind.wrap_u64]; omega
  unfold gv
  clear hgeo
  go_enter Tryd.func11, Tryd.ntmps11
  go_wp2_with (first
    | (at_make; refine wpList_make_full _ rfl (.const (.int .i64 7)) (.const (.int .i64 7)) 24 rfl (w.heap.size + 1) 42 i0 _ 1 Tryd.underlying24 hi hz0 hz1 .i64 .i64 7 7 7 rfl rfl rfl rfl (by rw [hz2]; omega) (by unfold maxLen; omega) (by simp) ?_; intro w1 hown1 hg1; rw [made64, World.size_alloc] at hown1; have hb1 := (Below.refl _ _).grown hg1 (Nat.le_refl _) (by intro k h; cases h); have HO1 := Lib.hid hown1; have HB1 := Lib.hid (below_then HB0.out hb1); have HGe1 := Lib.hid ((hb1.block w.heap.size (by simp)).trans HGe.out); clear hown1 hg1 hb1))
  refine (refPackM_any _).mono ?_
  rintro e w2 ⟨g, c, rfl, hg, hc0, hb2⟩
  have hown2 := own_below HO1.out hb2
  have HB2 := Lib.hid (below_then HB1.out hb2)
  have hg2 := (hb2.block w.heap.size (lt_of_block HGe1.out)).trans HGe1.out
  obtain ⟨g0, g1, g2, _, _, _⟩ := blk3 hg2
  have hz0 := hown2.cellAt 0 (by decide)
  have hz1 := hown2.cellAt 1 (by decide)
  rw [show (u64s (List.replicate 7 0))[0]? = some (.int .u64 0) from rfl] at hz0
  rw [show (u64s (List.replicate 7 0))[1]? = some (.int .u64 0) from rfl] at hz1
  have hf0 := hown2.frozenAt 0
  have hf1 := hown2.frozenAt 1
  have HO2 := Lib.hid hown2
  have he1 : (P : Int) + (I : Int) * 65536 + (B : Int) * 4294967296 = ((word1 P I B false : Nat) : Int) := by unfold word1; simp; omega
  have he2 : (P : Int) + (I : Int) * 65536 + (B : Int) * 4294967296 + 281474976710656 = ((word1 P I B true : Nat) : Int) := by unfold word1; simp; omega
  have hs1 := (hown2.stored 0 (.int .u64 (magicW : Nat))).1
  rw [u64s_setAt] at hs1
  have hs2 := (hs1.stored 1 (.int .u64 (word1 P I B false : Nat))).1
  rw [u64s_setAt, show ((List.replicate 7 0).set 0 magicW).set 1 (word1 P I B false) = superL P I B false from rfl] at hs2
  have hs3 := (hs2.stored 1 (.int .u64 (word1 P I B true : Nat))).1
  rw [u64s_setAt, show (superL P I B false).set 1 (word1 P I B true) = superL P I B true from rfl] at hs3
  rw [← he1] at hs2
  rw [← he1, ← he2] at hs3
  have hb5 := (HB2.out.setCell (p := ⟨w.heap.size + 1, 0, none⟩) (Nat.le_succ _) (.int .u64 (magicW : Nat))).setCell (p := ⟨w.heap.size + 1, 1, none⟩) (Nat.le_succ _) (.int .u64 ((P : Int) + (I : Int) * 65536 + (B : Int) * 4294967296))
  have hb6 := hb5.setCell (p := ⟨w.heap.size + 1, 1, none⟩) (Nat.le_succ _) (.int .u64 ((P : Int) + (I : Int) * 65536 + (B : Int) * 4294967296 + 281474976710656))
  have HB5 := Lib.hid hb5
  have HB6 := Lib.hid hb6
  have HS2 := Lib.hid hs2
  have HS3 := Lib.hid hs3
  clear hb5 hb6 hb2 hown2 hg2 he1 he2 hs1 hs2 hs3
  have hr1 : ¬ w.heap.size + 1 = w.heap.size := by omega
  have hr2 : ¬ w.heap.size = w.heap.size + 1 := by omega
  have hr3 : w.heap.size ≤ w.heap.size + 1 := by omega
  generalize hrr : w.heap.size + 1 = r at *
  clear hrr
  cases high with
  | false =>
    go_wp2_with fail
    refine (refSeal_any _ (superL P I B false) _ (Rd.of_own HS2.out) (superL_wd hP hI hB false) (by show 7 ≤ 65536; decide)).mono ?_
    rintro e w7 ⟨A7, c7, rfl, ho7, hb7⟩
    have HB7 := Lib.hid (below_then HB5.out hb7)
    have HO7 := Lib.hid (own_mono ho7 HB5.out.size)
    clear ho7 hb7
    go_wp2
    go_ret
    exact ⟨_, _, rfl, HO7.out, HB7.out⟩
  | true =>
    go_wp2_with fail
    refine (refSeal_any _ (superL P I B true) _ (Rd.of_own HS3.out) (superL_wd hP hI hB true) (by show 7 ≤ 65536; decide)).mono ?_
    rintro e w7 ⟨A7, c7, rfl, ho7, hb7⟩
    have HB7 := Lib.hid (below_then HB6.out hb7)
    have HO7 := Lib.hid (own_mono ho7 HB6.out.size)
    clear ho7 hb7
    go_wp2
    go_ret
    exact ⟨_, _, rfl, HO7.out, HB7.out⟩
end Go.Proofs.YtfmjhmgpnlmkkaaDoor
