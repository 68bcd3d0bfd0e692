/- geom.Inode, Slot, Block: where each stands. -/
import Derived.Test.YtpjhjpcajdbinaaGeomPlace
namespace Go.Proofs.Ytpjhjpcajdbinaa
open Go.RowKit
set_option linter.unusedVariables false
attribute [local go_sem ↓] run_most2

theorem most2_pre {n : Int} (h : I64 n) : IntKind.i64.wrap (most2 n 0 - 1) = most2 n 0 - 1 := by
  obtain ⟨h1, h2⟩ := h
  rw [most2_eq, IntKind.wrap_i64]; omega
theorem placeOut_frm {P I B frm frm' lines k cnt : Int} (h : MayG P I B → frm = frm') : placeOut P I B frm lines k cnt = placeOut P I B frm' lines k cnt := by
  unfold placeOut
  by_cases hm : MayG P I B
  · rw [h hm]
  · rw [if_neg hm, if_neg hm]
/-- a number that is known of a geometry that may be -/
def Some' (P I B a : Int) (w : World) (r : Ending) (w' : World) : Prop := ∃ z, r = .returned (.int .i64 z) ∧ (MayG P I B → z = a) ∧ Below w.heap.size w w'
theorem slots_c (P I B : Int) (hI : I64 I) (w : World) : Calls Try.prog 22 #[gv P I B] w (Some' P I B (2 + I) w) := by
  by_cases h : MayG P I B
  · refine (slots_may P I B h w).mono ?_
    rintro e w' ⟨rfl, hb⟩
    exact ⟨_, rfl, fun _ => rfl, hb⟩
  · refine (slots_any P I B hI w).mono ?_
    rintro e w' ⟨z, rfl, _, hb⟩
    exact ⟨z, rfl, fun hm => absurd hm h, hb⟩
theorem blocks_c (P I B : Int) (hI : I64 I) (w : World) : Calls Try.prog 21 #[gv P I B] w (Some' P I B (2 + I + 17 * P) w) := by
  by_cases h : MayG P I B
  · refine (blocks_may P I B h w).mono ?_
    rintro e w' ⟨rfl, hb⟩
    exact ⟨_, rfl, fun _ => rfl, hb⟩
  · refine (blocks_any P I B hI w).mono ?_
    rintro e w' ⟨z, rfl, _, hb⟩
    exact ⟨z, rfl, fun hm => absurd hm h, hb⟩

def inodeOut (P I B n : Int) : Int × Int := placeOut P I B 2 1 (most2 n 0 - 1) I
def slotOut (P I B n : Int) : Int × Int := placeOut P I B (2 + I) 17 n P
def blockOut (P I B n : Int) : Int × Int := placeOut P I B (2 + I + 17 * P) 4 (most2 n 0 - 1) B

set_option maxHeartbeats 1000000 in
theorem Inode_any (P I B n : Int) (hn : I64 n) (w : World) : Calls Try.prog 13 #[gv P I B, .int .i64 n] w (Out2 w (inodeOut P I B n).1 (inodeOut P I B n).2) := by
  have HP := Lib.hid (fun W => place_any P I B 2 1 (most2 n 0 - 1) I (fun h => by have := h.2.2.2.1; omega) (fun _ => by omega) (by omega) (by omega) W)
  have hw := most2_pre hn
  unfold inodeOut
  generalize placeOut P I B 2 1 (most2 n 0 - 1) I = T at *
  obtain ⟨ta, te⟩ := T
  unfold gv at HP ⊢
  clear hn
  go_enter Try.func13, Try.ntmps13
  go_wp2
  obtain ⟨w1, hw1⟩ : ∃ w1, w1 = w.alloc (.cells #[.int .i64 P, .int .i64 I, .int .i64 B] 23) := ⟨_, rfl⟩
  have hc0 : w1.cell? ⟨w.heap.size, 0, none⟩ = some (.int .i64 P) := by rw [hw1]; go_simp
  have hc1 : w1.cell? ⟨w.heap.size, 1, none⟩ = some (.int .i64 I) := by rw [hw1]; go_simp
  have hc2 : w1.cell? ⟨w.heap.size, 2, none⟩ = some (.int .i64 B) := by rw [hw1]; go_simp
  have hb1 : Below w.heap.size w w1 := by rw [hw1]; exact (Below.refl _ _).alloc (Nat.le_refl _) _
  rw [← hw1]
  clear hw1
  go_region_held3 (fun w' => w'.cell? ⟨w.heap.size, 0, none⟩ = some (.int .i64 P) ∧ w'.cell? ⟨w.heap.size, 1, none⟩ = some (.int .i64 I) ∧ w'.cell? ⟨w.heap.size, 2, none⟩ = some (.int .i64 B) ∧ Below w.heap.size w w')
    (first
      | exact ⟨hc0, hc1, hc2, hb1.drew⟩
      | assumption
      | exact keep4 (by assumption) (Nat.le_refl _) hbN
      | exact keep4a (by assumption) (Nat.le_refl _) _)
    (first
      | (go_at_call 23; refine (inodes_any _).mono ?_; rintro e w2 ⟨rfl, hbN⟩)
      | (go_at_call 26; refine (HP.out _).mono ?_; rintro e w2 ⟨rfl, hbN⟩))
  all_goals
    have hfin := (show _ ∧ _ ∧ _ ∧ _ from by assumption).2.2.2
    go_wp2
    go_ret2
    exact ⟨rfl, hfin⟩
set_option maxHeartbeats 1000000 in
theorem Slot_any (P I B n : Int) (hI : I64 I) (w : World) : Calls Try.prog 14 #[gv P I B, .int .i64 n] w (Out2 w (slotOut P I B n).1 (slotOut P I B n).2) := by
  have HSl := Lib.hid (fun W => slots_c P I B hI W)
  have HP := Lib.hid (fun W z (hz : MayG P I B → z = 2 + I) => show Calls _ _ _ _ (Out2 W (slotOut P I B n).1 (slotOut P I B n).2) by
    have := place_any P I B z 17 n P (fun h => by have := h.2.1; omega) (fun h => by rw [hz h]; obtain ⟨_, _, h1, h2, _⟩ := h; omega) (by omega) (by omega) W
    rw [placeOut_frm hz] at this
    exact this)
  generalize slotOut P I B n = T at *
  obtain ⟨ta, te⟩ := T
  unfold gv at HP HSl ⊢
  clear hI
  go_enter Try.func14, Try.ntmps14
  go_wp2
  obtain ⟨w1, hw1⟩ : ∃ w1, w1 = w.alloc (.cells #[.int .i64 P, .int .i64 I, .int .i64 B] 23) := ⟨_, rfl⟩
  have hc0 : w1.cell? ⟨w.heap.size, 0, none⟩ = some (.int .i64 P) := by rw [hw1]; go_simp
  have hc1 : w1.cell? ⟨w.heap.size, 1, none⟩ = some (.int .i64 I) := by rw [hw1]; go_simp
  have hc2 : w1.cell? ⟨w.heap.size, 2, none⟩ = some (.int .i64 B) := by rw [hw1]; go_simp
  have hb1 : Below w.heap.size w w1 := by rw [hw1]; exact (Below.refl _ _).alloc (Nat.le_refl _) _
  rw [← hw1]
  clear hw1
  go_region_held3 (fun w' => w'.cell? ⟨w.heap.size, 0, none⟩ = some (.int .i64 P) ∧ w'.cell? ⟨w.heap.size, 1, none⟩ = some (.int .i64 I) ∧ w'.cell? ⟨w.heap.size, 2, none⟩ = some (.int .i64 B) ∧ Below w.heap.size w w')
    (first
      | exact ⟨hc0, hc1, hc2, hb1.drew⟩
      | assumption
      | exact keep4 (by assumption) (Nat.le_refl _) hbN
      | exact keep4a (by assumption) (Nat.le_refl _) _)
    (first
      | (go_at_call 22; refine (HSl.out _).mono ?_; rintro e w2 ⟨z, rfl, hz, hbN⟩; have Hz := Lib.hid hz; clear hz)
      | (go_at_call 26; refine (HP.out _ _ Hz.out).mono ?_; rintro e w2 ⟨rfl, hbN⟩))
  all_goals
    have hfin := (show _ ∧ _ ∧ _ ∧ _ from by assumption).2.2.2
    go_wp2
    go_ret2
    exact ⟨rfl, hfin⟩
set_option maxHeartbeats 1000000 in
theorem Block_any (P I B n : Int) (hI : I64 I) (hn : I64 n) (w : World) : Calls Try.prog 15 #[gv P I B, .int .i64 n] w (Out2 w (blockOut P I B n).1 (blockOut P I B n).2) := by
  have HSl := Lib.hid (fun W => blocks_c P I B hI W)
  have hw := most2_pre hn
  have HP := Lib.hid (fun W z (hz : MayG P I B → z = 2 + I + 17 * P) => show Calls _ _ _ _ (Out2 W (blockOut P I B n).1 (blockOut P I B n).2) by
    have := place_any P I B z 4 (most2 n 0 - 1) B (fun h => by have := h.2.2.2.2.2; omega) (fun h => by rw [hz h]; obtain ⟨_, _, h1, h2, _⟩ := h; omega) (by omega) (by omega) W
    rw [placeOut_frm hz] at this
    exact this)
  generalize blockOut P I B n = T at *
  obtain ⟨ta, te⟩ := T
  unfold gv at HP HSl ⊢
  clear hI hn
  go_enter Try.func15, Try.ntmps15
  go_wp2
  obtain ⟨w1, hw1⟩ : ∃ w1, w1 = w.alloc (.cells #[.int .i64 P, .int .i64 I, .int .i64 B] 23) := ⟨_, rfl⟩
  have hc0 : w1.cell? ⟨w.heap.size, 0, none⟩ = some (.int .i64 P) := by rw [hw1]; go_simp
  have hc1 : w1.cell? ⟨w.heap.size, 1, none⟩ = some (.int .i64 I) := by rw [hw1]; go_simp
  have hc2 : w1.cell? ⟨w.heap.size, 2, none⟩ = some (.int .i64 B) := by rw [hw1]; go_simp
  have hb1 : Below w.heap.size w w1 := by rw [hw1]; exact (Below.refl _ _).alloc (Nat.le_refl _) _
  rw [← hw1]
  clear hw1
  go_region_held3 (fun w' => w'.cell? ⟨w.heap.size, 0, none⟩ = some (.int .i64 P) ∧ w'.cell? ⟨w.heap.size, 1, none⟩ = some (.int .i64 I) ∧ w'.cell? ⟨w.heap.size, 2, none⟩ = some (.int .i64 B) ∧ Below w.heap.size w w')
    (first
      | exact ⟨hc0, hc1, hc2, hb1.drew⟩
      | assumption
      | exact keep4 (by assumption) (Nat.le_refl _) hbN
      | exact keep4a (by assumption) (Nat.le_refl _) _)
    (first
      | (go_at_call 21; refine (HSl.out _).mono ?_; rintro e w2 ⟨z, rfl, hz, hbN⟩; have Hz := Lib.hid hz; clear hz)
      | (go_at_call 26; refine (HP.out _ _ Hz.out).mono ?_; rintro e w2 ⟨rfl, hbN⟩))
  all_goals
    have hfin := (show _ ∧ _ ∧ _ ∧ _ from by assumption).2.2.2
    go_wp2
    go_ret2
    exact ⟨rfl, hfin⟩
end Go.Proofs.Ytpjhjpcajdbinaa
