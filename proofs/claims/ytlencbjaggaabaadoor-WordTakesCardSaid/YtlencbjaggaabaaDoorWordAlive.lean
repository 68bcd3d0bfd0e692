/- The law's alive: the answers that the document fixes are given. -/
import Derived.Test.YtlencbjaggaabaaDoorWordCount
import Derived.Test.YtlencbjaggaabaaDoorWordWith
import Derived.Test.YtlencbjaggaabaaDoorWordText
import Derived.Test.YtlencbjaggaabaaDoorWordPack
import Derived.Test.YtlencbjaggaabaaDoorSame
namespace Go.Proofs.YtlencbjaggaabaaDoor
open Go.RowKit
set_option linter.unusedVariables false

theorem bs_abc : bs ⟨#[97, 98, 99, 100, 101, 102, 103, 104, 105]⟩ = [97, 98, 99, 100, 101, 102, 103, 104, 105] := by decide
theorem pk_abc : packed [97, 98, 99, 100, 101, 102, 103, 104, 105] = [7523094288207667809, 105] := by decide +kernel

set_option maxHeartbeats 2000000 in
theorem alive_any (w : World) (ht : Tab w) : Calls Tryd.prog 12 #[] w fun e w' => e = .returned (.bool true) ∧ Below w.heap.size w w' := by
  have hG : ∀ W, Calls Tryd.prog 8 #[.int .u64 2748, .int .i64 4, .int .i64 8] W fun e w' => e = .returned (.tuple #[.int .u64 171, .int .i64 0]) ∧ W = w' := fun W => Get_yes 2748 4 8 (by decide) (by unfold Fld; omega) W
  have hP : ∀ W, Calls Tryd.prog 10 #[.int .u64 2748, .int .i64 4, .int .i64 4, .int .u64 7] W fun e w' => e = .returned (.tuple #[.int .u64 2684, .int .i64 0]) ∧ W = w' := fun W => Put_yes 2748 7 4 4 (by unfold Fld; omega) (by decide) (by decide) W
  have hP2 : ∀ W, Calls Tryd.prog 10 #[.int .u64 0, .int .i64 0, .int .i64 2, .int .u64 4] W fun e w' => e = .returned (.tuple #[.int .u64 0, .int .i64 2]) ∧ W = w' := fun W => Put_big 0 4 0 2 (by unfold Fld; omega) (by decide) W
  have hwd : ∀ x ∈ [7, 0], x < 2 ^ 64 := by intro x hx; simp at hx; omega
  have hwd1 : ∀ x ∈ [7], x < 2 ^ 64 := by intro x hx; simp at hx; omega
  have hL : ∀ W v, Rd W v 2 (u64s [7, 0]) → Tab W → Calls Tryd.prog 19 #[v, .int .i64 100] W fun e w' => e = .returned (.tuple #[.int .i64 3, .bool true]) ∧ W = w' := fun W v h t =>
    Lowest_any v [7, 0] 100 W h hwd (by simp) (by omega) (by omega) t 3 ⟨by decide, by decide⟩
  have hC : ∀ W v, Rd W v 1 (u64s [7]) → Calls Tryd.prog 18 #[v, .int .i64 2] W fun e w' => e = .returned (.int .i64 2) ∧ W = w' := fun W v h =>
    (Count_any v [7] 2 W h hwd1 (by simp) (by omega) (by omega)).mono fun e w' ⟨he, hw⟩ => ⟨by rw [he]; exact ret_int (by decide +kernel), hw⟩
  have hK : ∀ W, Calls Tryd.prog 16 #[.string ⟨#[97, 98, 99, 100, 101, 102, 103, 104, 105]⟩] W (Hands W 22 1 2 (u64s [7523094288207667809, 105])) := fun W => by
    have := Pack_any ⟨#[97, 98, 99, 100, 101, 102, 103, 104, 105]⟩ W (by decide)
    rw [bs_abc, pk_abc] at this
    exact this
  have hnew : ∀ W : World, Rd (W.alloc (.cells #[.int .u64 7, .int .u64 0] 22)) (.slice (some ⟨W.heap.size, 0, none⟩) 2 2) 2 (u64s [7, 0]) := fun W => by
    have := Rd.new W (u64s [7, 0]) 22 (by simp [u64s]) 2 (by omega)
    simpa [u64s] using this
  have hnew1 : ∀ W : World, Rd (W.alloc (.cells #[.int .u64 7] 22)) (.slice (some ⟨W.heap.size, 0, none⟩) 1 1) 1 (u64s [7]) := fun W => by
    have := Rd.new W (u64s [7]) 22 (by simp [u64s]) 1 (by omega)
    simpa [u64s] using this
  have HG := Lib.hid hG
  have HP := Lib.hid hP
  have HP2 := Lib.hid hP2
  have HL := Lib.hid hL
  have HC := Lib.hid hC
  have HK := Lib.hid hK
  have Hnew := Lib.hid hnew
  have Hnew1 := Lib.hid hnew1
  have HT := Lib.hid ht
  clear hG hP hP2 hL hC hK hnew hnew1 hwd hwd1 ht
  go_enter Tryd.func12, Tryd.ntmps12
  go_wp2_with fail
  refine (HG.out _).mono ?_
  rintro e w' ⟨rfl, rfl⟩
  go_wp2_with fail
  refine (HP.out _).mono ?_
  rintro e w' ⟨rfl, rfl⟩
  go_wp2_with fail
  refine (HP2.out _).mono ?_
  rintro e w' ⟨rfl, rfl⟩
  go_wp2_with fail
  refine (HL.out _ _ (Hnew.out _) (HT.out.below ((Below.refl _ _).alloc (Nat.le_refl _) _))).mono ?_
  rintro e w' ⟨rfl, rfl⟩
  go_wp2_with fail
  refine (HK.out _).mono ?_
  rintro e w1 ⟨A1, c1, rfl, hown1, hb1⟩
  obtain ⟨b4, o4, rfl, hc4⟩ := (Rd.of_own hown1).at_ (j := 1) (u := .int .u64 105) rfl
  have Hw1 := Lib.hid (below_then ((Below.refl _ _).alloc (Nat.le_refl _) _) hb1)
  clear hown1 hb1
  go_wp2_with fail
  refine (HC.out _ _ (Hnew1.out _)).mono ?_
  rintro e w' ⟨rfl, rfl⟩
  go_wp2
  go_ret
  exact ⟨rfl, Hw1.out.alloc Hw1.out.size _⟩
end Go.Proofs.YtlencbjaggaabaaDoor
