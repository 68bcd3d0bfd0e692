/- geom.Lines, place, Inode, Slot, Block: what they give. -/
import Derived.Test.YtpjhjpcajdbinaaGeomSlots
import Derived.Test.YtpjhjpcajdbinaaMost
namespace Go.Proofs.Ytpjhjpcajdbinaa
open Go.RowKit
set_option linter.unusedVariables false
attribute [local go_sem ↓] run_most2

/-- a number, and an error -/
def Out2 (w : World) (a e : Int) (r : Ending) (w' : World) : Prop := r = .returned (.tuple #[.int .i64 a, .int .i64 e]) ∧ Below w.heap.size w w'
/-- how many lines there are -/
def linesOf (P I B : Int) : Int := 2 + I + 17 * P + 4 * B
def linesOut (P I B : Int) : Int × Int := if MayG P I B then (linesOf P I B, 0) else (0, 2)

set_option maxHeartbeats 1000000 in
theorem Lines_may (P I B : Int) (h : MayG P I B) (w : World) : Calls Try.prog 11 #[gv P I B] w (Out2 w (linesOf P I B) 0) := by
  have HC := Lib.hid (fun W => Check_yes P I B h W)
  have HBl := Lib.hid (fun W => blocks_may P I B h W)
  obtain ⟨h1, h2, h3, h4, h5, h6⟩ := h
  unfold gv at HC HBl ⊢
  have q2 : I64 (2 + I + 17 * P) := by unfold I64; omega
  have qB : I64 (4 * B) := by unfold I64; omega
  have qs : I64 (2 + I + 17 * P + 4 * B) := by unfold I64; omega
  have hw1 := i64w qB
  have HS := Lib.hid (fun W v h => sum_in v (2 + I + 17 * P) (4 * B) q2 qB qs W h)
  clear q2 qB qs h1 h2 h3 h4 h5 h6
  have hbx : Below w.heap.size w (w.alloc (.cells #[.int .i64 P, .int .i64 I, .int .i64 B] 23)) := (Below.refl _ _).alloc (Nat.le_refl _) _
  have HBx := Lib.hid hbx
  clear hbx
  go_enter Try.func11, Try.ntmps11
  go_wp2_with fail
  refine (HC.out _).mono ?_
  rintro e w1 ⟨rfl, hb⟩
  have hc0 : w1.cell? ⟨w.heap.size, 0, none⟩ = some (.int .i64 P) := keep_cell (by go_simp) hb
  have hc1 : w1.cell? ⟨w.heap.size, 1, none⟩ = some (.int .i64 I) := keep_cell (by go_simp) hb
  have hc2 : w1.cell? ⟨w.heap.size, 2, none⟩ = some (.int .i64 B) := keep_cell (by go_simp) hb
  have hb1 := below_on HBx.out (Nat.le_refl _) hb
  clear hb
  go_wp2
  go_region_held3 (fun w' => w'.cell? ⟨w.heap.size, 0, none⟩ = some (.int .i64 P) ∧ w'.cell? ⟨w.heap.size, 1, none⟩ = some (.int .i64 I) ∧ w'.cell? ⟨w.heap.size, 2, none⟩ = some (.int .i64 B) ∧ Below w.heap.size w w')
    (first
      | exact ⟨hc0, hc1, hc2, hb1.drew⟩
      | assumption
      | exact keep4 (by assumption) (Nat.le_refl _) hbN
      | exact keep4a (by assumption) (Nat.le_refl _) _)
    (first
      | (go_at_call 21; refine (HBl.out _).mono ?_; rintro e w2 ⟨rfl, hbN⟩)
      | (go_at_call 25; refine (HS.out _ _ (pair_new _ _ _)).mono ?_; rintro e w2 ⟨rfl, rfl⟩))
  have hfin := (show _ ∧ _ ∧ _ ∧ _ from by assumption).2.2.2
  go_wp2
  go_ret2
  exact ⟨rfl, hfin⟩
set_option maxHeartbeats 1000000 in
theorem Lines_arg (P I B : Int) (h : ¬ MayG P I B) (w : World) : Calls Try.prog 11 #[gv P I B] w (Out2 w 0 2) := by
  have HC := Lib.hid (fun W => Check_no P I B h W)
  unfold gv at HC ⊢
  clear h
  have hbx : Below w.heap.size w (w.alloc (.cells #[.int .i64 P, .int .i64 I, .int .i64 B] 23)) := (Below.refl _ _).alloc (Nat.le_refl _) _
  have HBx := Lib.hid hbx
  clear hbx
  go_enter Try.func11, Try.ntmps11
  go_wp2_with fail
  refine (HC.out _).mono ?_
  rintro e w1 ⟨rfl, hb⟩
  have hb1 := below_on HBx.out (Nat.le_refl _) hb
  clear hb
  go_wp2
  go_ret2
  exact ⟨rfl, hb1⟩
theorem Lines_any (P I B : Int) (w : World) : Calls Try.prog 11 #[gv P I B] w (Out2 w (linesOut P I B).1 (linesOut P I B).2) := by
  unfold linesOut
  by_cases h : MayG P I B
  · rw [if_pos h]; exact Lines_may P I B h w
  · rw [if_neg h]; exact Lines_arg P I B h w

/-! ### place -/
def placeOut (P I B frm lines k cnt : Int) : Int × Int := if MayG P I B then if k < 0 ∨ cnt ≤ k then (0, 3) else (8 * (frm + lines * k), 0) else (0, 2)
set_option maxHeartbeats 1000000 in
theorem place_arg (P I B frm lines k cnt : Int) (h : ¬ MayG P I B) (w : World) : Calls Try.prog 26 #[gv P I B, .int .i64 frm, .int .i64 lines, .int .i64 k, .int .i64 cnt] w (Out2 w 0 2) := by
  have HC := Lib.hid (fun W => Check_no P I B h W)
  unfold gv at HC ⊢
  clear h
  have hbx : Below w.heap.size w (w.alloc (.cells #[.int .i64 P, .int .i64 I, .int .i64 B] 23)) := (Below.refl _ _).alloc (Nat.le_refl _) _
  have HBx := Lib.hid hbx
  clear hbx
  go_enter Try.func26, Try.ntmps26
  go_wp2_with fail
  refine (HC.out _).mono ?_
  rintro e w1 ⟨rfl, hb⟩
  have hb1 := below_on HBx.out (Nat.le_refl _) hb
  clear hb
  go_wp2
  go_ret2
  exact ⟨rfl, hb1⟩
set_option maxHeartbeats 1000000 in
theorem place_none (P I B frm lines k cnt : Int) (h : MayG P I B) (hk : k < 0 ∨ cnt ≤ k) (w : World) : Calls Try.prog 26 #[gv P I B, .int .i64 frm, .int .i64 lines, .int .i64 k, .int .i64 cnt] w (Out2 w 0 3) := by
  have HC := Lib.hid (fun W => Check_yes P I B h W)
  unfold gv at HC ⊢
  clear h
  have hbx : Below w.heap.size w (w.alloc (.cells #[.int .i64 P, .int .i64 I, .int .i64 B] 23)) := (Below.refl _ _).alloc (Nat.le_refl _) _
  have HBx := Lib.hid hbx
  clear hbx
  by_cases h0 : decide (k < 0) = true
  · clear hk
    go_enter Try.func26, Try.ntmps26
    go_wp2_with fail
    refine (HC.out _).mono ?_
    rintro e w1 ⟨rfl, hb⟩
    have hb1 := below_on HBx.out (Nat.le_refl _) hb
    clear hb
    go_wp2
    go_ret2
    exact ⟨rfl, hb1⟩
  · rw [Bool.not_eq_true] at h0
    have hd : decide (k ≥ cnt) = true := by simp at h0 ⊢; omega
    have hd' : decide (cnt ≤ k) = true := hd
    clear hk
    go_enter Try.func26, Try.ntmps26
    go_wp2_with fail
    refine (HC.out _).mono ?_
    rintro e w1 ⟨rfl, hb⟩
    have hb1 := below_on HBx.out (Nat.le_refl _) hb
    clear hb
    go_wp2
    go_ret2
    exact ⟨rfl, hb1⟩
set_option maxHeartbeats 1000000 in
theorem place_yes (P I B frm lines k cnt : Int) (h : MayG P I B) (hk : 0 ≤ k) (hk2 : k < cnt) (hk3 : cnt ≤ 255) (hf0 : 0 ≤ frm) (hf : frm ≤ 5000) (hm0 : 0 ≤ lines * k) (hm : lines * k ≤ 8160) (w : World) :
    Calls Try.prog 26 #[gv P I B, .int .i64 frm, .int .i64 lines, .int .i64 k, .int .i64 cnt] w (Out2 w (8 * (frm + lines * k)) 0) := by
  have HC := Lib.hid (fun W => Check_yes P I B h W)
  unfold gv at HC ⊢
  clear h
  have hbx : Below w.heap.size w (w.alloc (.cells #[.int .i64 P, .int .i64 I, .int .i64 B] 23)) := (Below.refl _ _).alloc (Nat.le_refl _) _
  have HBx := Lib.hid hbx
  clear hbx
  have hd0 : decide (k < 0) = false := by simp; omega
  have hd1 : decide (k ≥ cnt) = false := by simp; omega
  have hd2 : decide (cnt ≤ k) = false := by simp; omega
  obtain ⟨M, hM⟩ : ∃ M, lines * k = M := ⟨_, rfl⟩
  rw [hM] at hm0 hm ⊢
  go_enter Try.func26, Try.ntmps26
  go_wp2_with fail
  refine (HC.out _).mono ?_
  rintro e w1 ⟨rfl, hb⟩
  have hb1 := below_on HBx.out (Nat.le_refl _) hb
  clear hb
  go_wp2
  go_ret2
  exact ⟨rfl, hb1⟩
/-- of 'lines' lines each -/
theorem place_any (P I B frm lines k cnt : Int) (hc : MayG P I B → cnt ≤ 255) (hf : MayG P I B → 0 ≤ frm ∧ frm ≤ 5000) (hl0 : 0 ≤ lines) (hl : lines ≤ 32) (w : World) :
    Calls Try.prog 26 #[gv P I B, .int .i64 frm, .int .i64 lines, .int .i64 k, .int .i64 cnt] w (Out2 w (placeOut P I B frm lines k cnt).1 (placeOut P I B frm lines k cnt).2) := by
  unfold placeOut
  by_cases h : MayG P I B
  · rw [if_pos h]
    by_cases hk : k < 0 ∨ cnt ≤ k
    · rw [if_pos hk]; exact place_none P I B frm lines k cnt h hk w
    · rw [if_neg hk]
      have hk0 : 0 ≤ k := by omega
      have hk1 : k ≤ 254 := by have := hc h; omega
      exact place_yes P I B frm lines k cnt h hk0 (by omega) (hc h) (hf h).1 (hf h).2 (Int.mul_nonneg hl0 hk0) (Int.le_trans (Int.mul_le_mul hl hk1 hk0 (by omega)) (by omega)) w
  · rw [if_neg h]; exact place_arg P I B frm lines k cnt h w
end Go.Proofs.Ytpjhjpcajdbinaa
