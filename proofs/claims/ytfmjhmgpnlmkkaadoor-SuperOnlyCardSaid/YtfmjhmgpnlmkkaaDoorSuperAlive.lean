/- parcloselaw05.alive. -/
import Derived.Test.YtfmjhmgpnlmkkaaDoorSuperJ
namespace Go.Proofs.YtfmjhmgpnlmkkaaDoor
open Go.RowKit
set_option linter.unusedVariables false

theorem may359 : MayG ((3 : Nat) : Int) ((5 : Nat) : Int) ((9 : Nat) : Int) := by unfold MayG; omega
theorem zeros8 : decAt (List.replicate 8 0) = 0 := dec_magic (by decide)
theorem zeros8_wd : ∀ x ∈ List.replicate 8 0, x < 18446744073709551616 := by
  intro x hx
  rw [List.eq_of_mem_replicate hx]
  decide

set_option maxRecDepth 100000 in
set_option maxHeartbeats 8000000 in
theorem alive_any (w : World) (hg : Laid w) : Calls Tryd.prog 9 #[] w fun e w' => e = .returned (.bool true) ∧ Below w.heap.size w w' := by
  have HG := Lib.hid hg
  have hE : ∀ W, Calls Tryd.prog 7 #[.agg #[.int .i64 3, .int .i64 5, .int .i64 9], .bool true] W fun e w' => ∃ g c, e = .returned (.tuple #[.slice (some ⟨g, 0, none⟩) 8 c, .int .i64 0]) ∧ Rd w' (.slice (some ⟨g, 0, none⟩) 8 c) 8 (u64s (sealed (superL 3 5 9 true))) ∧ w'.cell? ⟨g, 0, none⟩ = some (.int .u64 7310309131468038512) ∧ w'.cell? ⟨g, 1, none⟩ = some (.int .u64 281513631744003) ∧ Below W.heap.size W w' := fun W => by
    refine (Encode_yes 3 5 9 may359 true W).mono ?_
    rintro e w' ⟨A, c, rfl, ho, hb⟩
    obtain ⟨g, cap, hv, hg, hlt⟩ := World.ownsRow.form (n := 8) ho (by omega)
    injection hv with hA _ hc
    subst hA
    exact ⟨g, c, rfl, Rd.of_own ho, ho.cellAt 0 (by decide), ho.cellAt 1 (by decide), hb⟩
  have hD1 : ∀ W v, Laid W → Rd W v 8 (u64s (sealed (superL 3 5 9 true))) → Calls Tryd.prog 14 #[v] W fun e w' => e = .returned (.tuple #[.agg #[.int .i64 3, .int .i64 5, .int .i64 9], .bool true, .nilIface]) ∧ Below W.heap.size W w' := fun W v hL hr => by
    obtain ⟨d0, d1, d2, d3, d4⟩ := dec_super may359 true
    refine (Decode_any v (sealed (superL 3 5 9 true)) W (sealed_wd (superL_wd (by decide) (by decide) (by decide) true)) (by decide) hr hL).mono ?_
    rintro e w' (⟨_, h1, h2⟩ | ⟨h, _⟩)
    · rw [d1, d2, d3, d4] at h1
      exact ⟨h1, h2⟩
    · exact (h d0).elim
  have hD0 : ∀ W v, Laid W → Rd W v 8 (u64s (List.replicate 8 0)) → Calls Tryd.prog 14 #[v] W fun e w' => e = .returned (.tuple #[.agg #[.int .i64 0, .int .i64 0, .int .i64 0], .bool false, .iface 53 (.agg #[.int .i64 0, .int .i64 7])]) ∧ Below W.heap.size W w' := fun W v hL hr => by
    refine (Decode_any v (List.replicate 8 0) W zeros8_wd (by decide) hr hL).mono ?_
    rintro e w' (⟨h, _⟩ | ⟨_, h1, h2⟩)
    · rw [zeros8] at h; exact absurd h (by decide)
    · rw [zeros8] at h1
      exact ⟨h1, h2⟩
  have HE := Lib.hid hE
  have HD1 := Lib.hid hD1
  have HD0 := Lib.hid hD0
  have hq := run_eqG
  have hgd := guard_eqG
  obtain ⟨i0, hi, hz0, hz1, hz2⟩ := info_parts info64
  have hge : (w.alloc (.cells #[.int .i64 3, .int .i64 5, .int .i64 9] 23)).heap[w.heap.size]? = some (.cells #[.int .i64 3, .int .i64 5, .int .i64 9] 23 (0, 0)) := heap_alloc_new w _
  have HGe := Lib.hid hge
  have HB0 := Lib.hid ((Below.refl _ w).alloc (Nat.le_refl _) (.cells #[.int .i64 3, .int .i64 5, .int .i64 9] 23))
  clear hE hD1 hD0 hg hge
  go_enter Tryd.func9, Tryd.ntmps9
  go_wp2_with fail
  refine (HE.out _).mono ?_
  rintro e w1 ⟨g, c, rfl, hr1, q0, q1, hb1⟩
  have HR1 := Lib.hid hr1
  have HB1 := Lib.hid (below_then HB0.out hb1)
  have HGe1 := Lib.hid ((hb1.block _ (lt_of_block HGe.out)).trans HGe.out)
  have Q0 := Lib.hid q0
  have Q1 := Lib.hid q1
  clear hr1 hb1 q0 q1
  go_wp2_with fail
  refine (HD1.out _ _ (HG.out.below HB1.out) HR1.out).mono ?_
  rintro e w2 ⟨rfl, hb2⟩
  have HB2 := Lib.hid (below_then HB1.out hb2)
  have HGe2 := Lib.hid ((hb2.block _ (lt_of_block HGe1.out)).trans HGe1.out)
  have q0 := (hb2.cell (World.block_lt_of_cell? _ _ Q0.out)).trans Q0.out
  have q1 := (hb2.cell (World.block_lt_of_cell? _ _ Q1.out)).trans Q1.out
  have hge2 : (w2.alloc (.cells #[.int .i64 3, .int .i64 5, .int .i64 9] 23)).heap[w2.heap.size]? = some (.cells #[.int .i64 3, .int .i64 5, .int .i64 9] 23 (0, 0)) := heap_alloc_new w2 _
  have hb3 := (Below.refl _ w2).alloc (Nat.le_refl _) (.cells #[.int .i64 3, .int .i64 5, .int .i64 9] 23)
  have HX3 := Lib.hid hge2
  have HB3 := Lib.hid (below_then HB2.out hb3)
  have HGe3 := Lib.hid ((hb3.block _ (lt_of_block HGe2.out)).trans HGe2.out)
  have Q03 := Lib.hid ((hb3.cell (World.block_lt_of_cell? _ _ q0)).trans q0)
  have Q13 := Lib.hid ((hb3.cell (World.block_lt_of_cell? _ _ q1)).trans q1)
  clear hb2 hb3 hge2 q0 q1
  go_wp2_with (at_make; refine wpList_make_full _ rfl (.const (.int .i64 8)) (.const (.int .i64 8)) 24 rfl (w2.heap.size + 1) 42 i0 _ 1 Tryd.underlying24 hi hz0 hz1 .i64 .i64 8 8 8 rfl rfl rfl rfl (by rw [hz2]; omega) (by unfold maxLen; omega) (by simp) ?_; intro w4 hown4 hg4; rw [made64, World.size_alloc] at hown4; have hb4 := (Below.refl _ _).grown hg4 (Nat.le_refl _) (by intro k h; cases h); have HR4 := Lib.hid (Rd.of_own hown4); have HB4 := Lib.hid (below_then HB3.out hb4); have HX4 := Lib.hid ((hb4.block _ (lt_of_block HX3.out)).trans HX3.out); have HGe4 := Lib.hid ((hb4.block _ (lt_of_block HGe3.out)).trans HGe3.out); have Q04 := Lib.hid ((hb4.cell (World.block_lt_of_cell? _ _ Q03.out)).trans Q03.out); have Q14 := Lib.hid ((hb4.cell (World.block_lt_of_cell? _ _ Q13.out)).trans Q13.out); clear hown4 hg4 hb4)
  refine (HD0.out _ _ (HG.out.below HB4.out) HR4.out).mono ?_
  rintro e w5 ⟨rfl, hb5⟩
  have HB5 := Lib.hid (below_then HB4.out hb5)
  have hx5 := (hb5.block _ (lt_of_block HX4.out)).trans HX4.out
  have hge5 := (hb5.block _ (lt_of_block HGe4.out)).trans HGe4.out
  have q0 := (hb5.cell (World.block_lt_of_cell? _ _ Q04.out)).trans Q04.out
  have q1 := (hb5.cell (World.block_lt_of_cell? _ _ Q14.out)).trans Q14.out
  have l0 := lt_of_block hx5
  have l1 := lt_of_block hge5
  have l2 := World.block_lt_of_cell? _ _ q0
  obtain ⟨a0, a1, a2, _, _, _⟩ := blk3 hx5
  obtain ⟨b0, b1, b2, _, _, _⟩ := blk3 hge5
  have HB6 := Lib.hid (below_then HB5.out ((Below.refl _ w5).alloc (Nat.le_refl _) (.cells #[.int .i64 0, .int .i64 0, .int .i64 0] 23)))
  clear hb5 hx5 hge5
  go_wp2_with fail
  refine (told_same 0 _ (HG.out.below HB6.out)).mono ?_
  rintro e w7 ⟨rfl, hb7⟩
  have HB7 := Lib.hid (below_then HB6.out hb7)
  clear hb7 a0 a1 a2 b0 b1 b2 q0 q1
  go_wp2
  go_ret
  exact ⟨rfl, HB7.out⟩
end Go.Proofs.YtfmjhmgpnlmkkaaDoor
