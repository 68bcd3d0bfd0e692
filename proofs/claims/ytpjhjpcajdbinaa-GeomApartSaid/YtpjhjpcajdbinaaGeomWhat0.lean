/- geom.kind, What. -/
import Derived.Test.YtpjhjpcajdbinaaGeomInode
import Derived.Test.YtpjhjpcajdbinaaGeomBlk
namespace Go.Proofs.Ytpjhjpcajdbinaa
open Go.RowKit
set_option linter.unusedVariables false
attribute [local go_sem ↓] run_most2

def kdOf (P I line : Int) : Int := if 2 + I + 17 * P ≤ line then 5 else if 2 + I ≤ line then 4 else if 2 ≤ line then 3 else if 1 ≤ line then 2 else 1

set_option maxHeartbeats 2000000 in
theorem kind_any (P I B line : Int) (h : MayG P I B) (hl : I64 line) (w : World) : Calls Try.prog 20 #[gv P I B, .int .i64 line] w fun e w' => e = .returned (.int .u8 (kdOf P I line)) ∧ Below w.heap.size w w' := by
  have HSl := Lib.hid (fun W => slots_may P I B h W)
  have HBl := Lib.hid (fun W => blocks_may P I B h W)
  obtain ⟨h1, h2, h3, h4, h5, h6⟩ := h
  obtain ⟨hl1, hl2⟩ := hl
  unfold gv at HSl HBl ⊢
  have hbx : Below w.heap.size w (w.alloc (.cells #[.int .i64 P, .int .i64 I, .int .i64 B] 23)) := (Below.refl _ _).alloc (Nat.le_refl _) _
  have hbk := heap_alloc_new w (.cells #[.int .i64 P, .int .i64 I, .int .i64 B] 23)
  have HBx := Lib.hid hbx
  have HBk := Lib.hid hbk
  clear hbx hbk
  unfold kdOf
  by_cases c1 : 2 + I + 17 * P ≤ line
  · rw [if_pos c1]
    have d1 : decide (line ≥ 2 + I + 17 * P) = true := by simpa using c1
    go_enter Try.func20, Try.ntmps20
    go_wp2_with fail
    refine (HBl.out _).mono ?_
    rintro e w1 ⟨rfl, hb⟩
    have hb1 := below_on HBx.out (Nat.le_refl _) hb
    clear hb
    go_wp2
    go_ret
    exact ⟨rfl, hb1⟩
  rw [if_neg c1]
  have d1 : decide (line ≥ 2 + I + 17 * P) = false := by simp; omega
  by_cases c2 : 2 + I ≤ line
  · rw [if_pos c2]
    have d2 : decide (line ≥ 2 + I) = true := by simpa using c2
    go_enter Try.func20, Try.ntmps20
    go_wp2_with fail
    refine (HBl.out _).mono ?_
    rintro e w1 ⟨rfl, hb⟩
    obtain ⟨g0, g1, g2, _, _, _⟩ := blk3 (blk_below HBk.out hb)
    have HB1 := Lib.hid (below_on HBx.out (Nat.le_refl _) hb)
    clear hb
    go_wp2_with fail
    refine (HSl.out _).mono ?_
    rintro e w2 ⟨rfl, hb⟩
    have hb2 := below_on HB1.out (Nat.le_refl _) hb
    clear hb
    go_wp2
    go_ret
    exact ⟨rfl, hb2⟩
  rw [if_neg c2]
  have d2 : decide (line ≥ 2 + I) = false := by simp; omega
  have d3' : decide (line ≥ 2) = decide (2 ≤ line) := rfl
  have d4' : decide (line ≥ 1) = decide (1 ≤ line) := rfl
  clear d3' d4'
  by_cases c3 : 2 ≤ line
  · rw [if_pos c3]
    have d3 : decide (line ≥ 2) = true := by simpa using c3
    go_enter Try.func20, Try.ntmps20
    go_wp2_with fail
    refine (HBl.out _).mono ?_
    rintro e w1 ⟨rfl, hb⟩
    obtain ⟨g0, g1, g2, _, _, _⟩ := blk3 (blk_below HBk.out hb)
    have HB1 := Lib.hid (below_on HBx.out (Nat.le_refl _) hb)
    clear hb
    go_wp2_with fail
    refine (HSl.out _).mono ?_
    rintro e w2 ⟨rfl, hb⟩
    have HB2 := Lib.hid (below_on HB1.out (Nat.le_refl _) hb)
    clear hb
    go_wp2_with fail
    refine (inodes_any _).mono ?_
    rintro e w3 ⟨rfl, hb⟩
    have hb3 := below_on HB2.out (Nat.le_refl _) hb
    clear hb
    go_wp2
    go_ret
    exact ⟨rfl, hb3⟩
  rw [if_neg c3]
  have d3 : decide (line ≥ 2) = false := by simp; omega
  by_cases c4 : 1 ≤ line
  · rw [if_pos c4]
    have d4 : decide (line ≥ 1) = true := by simpa using c4
    go_enter Try.func20, Try.ntmps20
    go_wp2_with fail
    refine (HBl.out _).mono ?_
    rintro e w1 ⟨rfl, hb⟩
    obtain ⟨g0, g1, g2, _, _, _⟩ := blk3 (blk_below HBk.out hb)
    have HB1 := Lib.hid (below_on HBx.out (Nat.le_refl _) hb)
    clear hb
    go_wp2_with fail
    refine (HSl.out _).mono ?_
    rintro e w2 ⟨rfl, hb⟩
    have HB2 := Lib.hid (below_on HB1.out (Nat.le_refl _) hb)
    clear hb
    go_wp2_with fail
    refine (inodes_any _).mono ?_
    rintro e w3 ⟨rfl, hb⟩
    have hb3 := below_on HB2.out (Nat.le_refl _) hb
    clear hb
    go_wp2
    go_ret
    exact ⟨rfl, hb3⟩
  · rw [if_neg c4]
    have d4 : decide (line ≥ 1) = false := by simp; omega
    go_enter Try.func20, Try.ntmps20
    go_wp2_with fail
    refine (HBl.out _).mono ?_
    rintro e w1 ⟨rfl, hb⟩
    obtain ⟨g0, g1, g2, _, _, _⟩ := blk3 (blk_below HBk.out hb)
    have HB1 := Lib.hid (below_on HBx.out (Nat.le_refl _) hb)
    clear hb
    go_wp2_with fail
    refine (HSl.out _).mono ?_
    rintro e w2 ⟨rfl, hb⟩
    have HB2 := Lib.hid (below_on HB1.out (Nat.le_refl _) hb)
    clear hb
    go_wp2_with fail
    refine (inodes_any _).mono ?_
    rintro e w3 ⟨rfl, hb⟩
    have hb3 := below_on HB2.out (Nat.le_refl _) hb
    clear hb
    go_wp2
    go_ret
    exact ⟨rfl, hb3⟩
end Go.Proofs.Ytpjhjpcajdbinaa
