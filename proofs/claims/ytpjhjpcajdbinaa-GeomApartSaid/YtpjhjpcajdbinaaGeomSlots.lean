/- geom.slots, blocks, Lines, Inode, Slot, Block. -/
import Derived.Test.YtpjhjpcajdbinaaGeomCode
namespace Go.Proofs.Ytpjhjpcajdbinaa
open Go.RowKit
set_option linter.unusedVariables false

theorem keep_cell {a b : World} {ad : Addr} {v : Value} (hc : a.cell? ad = some v) (hb : Below a.heap.size a b) : b.cell? ad = some v := (hb.cell (World.block_lt_of_cell? _ _ hc)).trans hc
theorem keep_alloc {a : World} {ad : Addr} {v : Value} (hc : a.cell? ad = some v) (o : Obj) : (a.alloc o).cell? ad = some v := keep_cell hc ((Below.refl _ _).alloc (Nat.le_refl _) o)
theorem below_alloc {n : Nat} {W a : World} (h : Below n W a) (hn : n ≤ W.heap.size) (o : Obj) : Below n W (a.alloc o) := h.alloc (Nat.le_trans hn h.size) o
theorem below_on {n : Nat} {W a b : World} (h : Below n W a) (hn : n ≤ W.heap.size) (hb : Below a.heap.size a b) : Below n W b := h.trans (hb.mono (Nat.le_trans hn h.size))

theorem keep2 {n : Nat} {W a b : World} {ad : Addr} {v : Value} (h : a.cell? ad = some v ∧ Below n W a) (hn : n ≤ W.heap.size) (hb : Below a.heap.size a b) : b.cell? ad = some v ∧ Below n W b := ⟨keep_cell h.1 hb, below_on h.2 hn hb⟩
theorem keep2a {n : Nat} {W a : World} {ad : Addr} {v : Value} (h : a.cell? ad = some v ∧ Below n W a) (hn : n ≤ W.heap.size) (o : Obj) : (a.alloc o).cell? ad = some v ∧ Below n W (a.alloc o) := keep2 h hn ((Below.refl _ _).alloc (Nat.le_refl _) o)

theorem keep4 {n : Nat} {W a b : World} {d0 d1 d2 : Addr} {v0 v1 v2 : Value} (h : a.cell? d0 = some v0 ∧ a.cell? d1 = some v1 ∧ a.cell? d2 = some v2 ∧ Below n W a) (hn : n ≤ W.heap.size) (hb : Below a.heap.size a b) : b.cell? d0 = some v0 ∧ b.cell? d1 = some v1 ∧ b.cell? d2 = some v2 ∧ Below n W b :=
  ⟨keep_cell h.1 hb, keep_cell h.2.1 hb, keep_cell h.2.2.1 hb, below_on h.2.2.2 hn hb⟩
theorem keep4a {n : Nat} {W a : World} {d0 d1 d2 : Addr} {v0 v1 v2 : Value} (h : a.cell? d0 = some v0 ∧ a.cell? d1 = some v1 ∧ a.cell? d2 = some v2 ∧ Below n W a) (hn : n ≤ W.heap.size) (o : Obj) : (a.alloc o).cell? d0 = some v0 ∧ (a.alloc o).cell? d1 = some v1 ∧ (a.alloc o).cell? d2 = some v2 ∧ Below n W (a.alloc o) :=
  keep4 h hn ((Below.refl _ _).alloc (Nat.le_refl _) o)
theorem i64w {x : Int} (h : I64 x) : IntKind.i64.wrap x = x := by
  obtain ⟨h1, h2⟩ := h
  rw [IntKind.wrap_i64]; omega
theorem i64_wrap' (x : Int) : I64 (IntKind.i64.wrap x) := by rw [IntKind.wrap_i64]; unfold I64; omega
theorem i64_wrap (x : Int) : I64 (wrap64 x) := by unfold I64 wrap64; omega

set_option maxHeartbeats 1000000 in
theorem slots_may (P I B : Int) (h : MayG P I B) (w : World) : Calls Try.prog 22 #[gv P I B] w fun e w' => e = .returned (.int .i64 (2 + I)) ∧ Below w.heap.size w w' := by
  obtain ⟨h1, h2, h3, h4, h5, h6⟩ := h
  unfold gv
  have q2 : I64 2 := by unfold I64; omega
  have qI : I64 I := by unfold I64; omega
  have qs : I64 (2 + I) := by unfold I64; omega
  have hw1 := i64w qI
  have HS := Lib.hid (fun W v h => sum_in v 2 I q2 qI qs W h)
  clear q2 qI qs h1 h2 h3 h4 h5 h6
  go_enter Try.func22, Try.ntmps22
  go_wp2
  obtain ⟨w1, hw⟩ : ∃ w1, w1 = w.alloc (.cells #[.int .i64 P, .int .i64 I, .int .i64 B] 23) := ⟨_, rfl⟩
  have hc1 : w1.cell? ⟨w.heap.size, 1, none⟩ = some (.int .i64 I) := by rw [hw]; go_simp
  have hb1 : Below w.heap.size w w1 := by rw [hw]; exact (Below.refl _ _).alloc (Nat.le_refl _) _
  rw [← hw]
  clear hw
  go_region_held3 (fun w' => w'.cell? ⟨w.heap.size, 1, none⟩ = some (.int .i64 I) ∧ Below w.heap.size w w')
    (first
      | exact ⟨hc1, hb1.drew⟩
      | assumption
      | exact keep2 (by assumption) (Nat.le_refl _) hbN
      | exact keep2a (by assumption) (Nat.le_refl _) _)
    (first
      | (go_at_call 23; refine (inodes_any _).mono ?_; rintro e w2 ⟨rfl, hbN⟩)
      | (go_at_call 25; refine (HS.out _ _ (pair_new _ _ _)).mono ?_; rintro e w2 ⟨rfl, rfl⟩))
  have hfin := (show _ ∧ _ from by assumption).2
  go_wp2
  go_ret
  exact ⟨rfl, hfin⟩
/-- whatever the geometry: some number -/
def SomeI (w : World) (r : Ending) (w' : World) : Prop := ∃ z, r = .returned (.int .i64 z) ∧ I64 z ∧ Below w.heap.size w w'
set_option maxHeartbeats 1000000 in
theorem slots_any (P I B : Int) (hI : I64 I) (w : World) : Calls Try.prog 22 #[gv P I B] w (SomeI w) := by
  unfold gv
  have q2 : I64 2 := by unfold I64; omega
  have hw1 := i64w hI
  have HS := Lib.hid (fun W v h => sum_any v 2 I q2 hI W h)
  have HZ := Lib.hid (i64_wrap (2 + I))
  clear q2 hI
  go_enter Try.func22, Try.ntmps22
  go_wp2
  obtain ⟨w1, hw⟩ : ∃ w1, w1 = w.alloc (.cells #[.int .i64 P, .int .i64 I, .int .i64 B] 23) := ⟨_, rfl⟩
  have hc1 : w1.cell? ⟨w.heap.size, 1, none⟩ = some (.int .i64 I) := by rw [hw]; go_simp
  have hb1 : Below w.heap.size w w1 := by rw [hw]; exact (Below.refl _ _).alloc (Nat.le_refl _) _
  rw [← hw]
  clear hw
  go_region_held3 (fun w' => w'.cell? ⟨w.heap.size, 1, none⟩ = some (.int .i64 I) ∧ Below w.heap.size w w')
    (first
      | exact ⟨hc1, hb1.drew⟩
      | assumption
      | exact keep2 (by assumption) (Nat.le_refl _) hbN
      | exact keep2a (by assumption) (Nat.le_refl _) _)
    (first
      | (go_at_call 23; refine (inodes_any _).mono ?_; rintro e w2 ⟨rfl, hbN⟩)
      | (go_at_call 25; refine (HS.out _ _ (pair_new _ _ _)).mono ?_; rintro e w2 ⟨rfl, rfl⟩))
  have hfin := (show _ ∧ _ from by assumption).2
  go_wp2
  go_ret
  exact ⟨_, rfl, HZ.out, hfin⟩

set_option maxHeartbeats 1000000 in
theorem blocks_may (P I B : Int) (h : MayG P I B) (w : World) : Calls Try.prog 21 #[gv P I B] w fun e w' => e = .returned (.int .i64 (2 + I + 17 * P)) ∧ Below w.heap.size w w' := by
  have HSl := Lib.hid (fun W => slots_may P I B h W)
  obtain ⟨h1, h2, h3, h4, h5, h6⟩ := h
  unfold gv at HSl ⊢
  have q2 : I64 (2 + I) := by unfold I64; omega
  have qP : I64 (17 * P) := by unfold I64; omega
  have qs : I64 (2 + I + 17 * P) := by unfold I64; omega
  have hw1 := i64w qP
  have HS := Lib.hid (fun W v h => sum_in v (2 + I) (17 * P) q2 qP qs W h)
  clear q2 qP qs h1 h2 h3 h4 h5 h6
  go_enter Try.func21, Try.ntmps21
  go_wp2
  obtain ⟨w1, hw⟩ : ∃ w1, w1 = w.alloc (.cells #[.int .i64 P, .int .i64 I, .int .i64 B] 23) := ⟨_, rfl⟩
  have hc0 : w1.cell? ⟨w.heap.size, 0, none⟩ = some (.int .i64 P) := by rw [hw]; go_simp
  have hc1 : w1.cell? ⟨w.heap.size, 1, none⟩ = some (.int .i64 I) := by rw [hw]; go_simp
  have hc2 : w1.cell? ⟨w.heap.size, 2, none⟩ = some (.int .i64 B) := by rw [hw]; go_simp
  have hb1 : Below w.heap.size w w1 := by rw [hw]; exact (Below.refl _ _).alloc (Nat.le_refl _) _
  rw [← hw]
  clear hw
  go_region_held3 (fun w' => w'.cell? ⟨w.heap.size, 0, none⟩ = some (.int .i64 P) ∧ w'.cell? ⟨w.heap.size, 1, none⟩ = some (.int .i64 I) ∧ w'.cell? ⟨w.heap.size, 2, none⟩ = some (.int .i64 B) ∧ Below w.heap.size w w')
    (first
      | exact ⟨hc0, hc1, hc2, hb1.drew⟩
      | assumption
      | exact keep4 (by assumption) (Nat.le_refl _) hbN
      | exact keep4a (by assumption) (Nat.le_refl _) _)
    (first
      | (go_at_call 22; refine (HSl.out _).mono ?_; rintro e w2 ⟨rfl, hbN⟩)
      | (go_at_call 25; refine (HS.out _ _ (pair_new _ _ _)).mono ?_; rintro e w2 ⟨rfl, rfl⟩))
  have hfin := (show _ ∧ _ ∧ _ ∧ _ from by assumption).2.2.2
  go_wp2
  go_ret
  exact ⟨rfl, hfin⟩
set_option maxHeartbeats 1000000 in
theorem blocks_any (P I B : Int) (hI : I64 I) (w : World) : Calls Try.prog 21 #[gv P I B] w (SomeI w) := by
  have HSl := Lib.hid (fun W => slots_any P I B hI W)
  unfold gv at HSl ⊢
  have HS := Lib.hid (fun W v x h hx => sum_any v x (IntKind.i64.wrap (17 * P)) hx (i64_wrap' _) W h)
  have HZ := Lib.hid i64_wrap
  clear hI
  go_enter Try.func21, Try.ntmps21
  go_wp2
  obtain ⟨w1, hw⟩ : ∃ w1, w1 = w.alloc (.cells #[.int .i64 P, .int .i64 I, .int .i64 B] 23) := ⟨_, rfl⟩
  have hc0 : w1.cell? ⟨w.heap.size, 0, none⟩ = some (.int .i64 P) := by rw [hw]; go_simp
  have hc1 : w1.cell? ⟨w.heap.size, 1, none⟩ = some (.int .i64 I) := by rw [hw]; go_simp
  have hc2 : w1.cell? ⟨w.heap.size, 2, none⟩ = some (.int .i64 B) := by rw [hw]; go_simp
  have hb1 : Below w.heap.size w w1 := by rw [hw]; exact (Below.refl _ _).alloc (Nat.le_refl _) _
  rw [← hw]
  clear hw
  go_region_held3 (fun w' => w'.cell? ⟨w.heap.size, 0, none⟩ = some (.int .i64 P) ∧ w'.cell? ⟨w.heap.size, 1, none⟩ = some (.int .i64 I) ∧ w'.cell? ⟨w.heap.size, 2, none⟩ = some (.int .i64 B) ∧ Below w.heap.size w w')
    (first
      | exact ⟨hc0, hc1, hc2, hb1.drew⟩
      | assumption
      | exact keep4 (by assumption) (Nat.le_refl _) hbN
      | exact keep4a (by assumption) (Nat.le_refl _) _)
    (first
      | (go_at_call 22; refine (HSl.out _).mono ?_; rintro e w2 ⟨z, rfl, hz, hbN⟩; have Hz := Lib.hid hz; clear hz)
      | (go_at_call 25; refine (HS.out _ _ _ (pair_new _ _ _) Hz.out).mono ?_; rintro e w2 ⟨rfl, rfl⟩))
  have hfin := (show _ ∧ _ ∧ _ ∧ _ from by assumption).2.2.2
  go_wp2
  go_ret
  exact ⟨_, rfl, HZ.out _, hfin⟩
end Go.Proofs.Ytpjhjpcajdbinaa
