/- parcloselaw06.alive. -/
import Derived.Test.YtnpmepklgakaiaaDoorInodeJ
import Derived.Deep.AppendLies
import Derived.Deep.CutRange
namespace Go.Proofs.YtnpmepklgakaiaaDoor
open Go.RowKit
set_option linter.unusedVariables false

def xa : Ino := ⟨2, 1, 1, 0, 2, 0, 3, 0, 0, 4, 1, 0, 0⟩
def la : List Nat := [4294967554, 0, 2, 67108867, 1, 0, 0]
theorem iv_xa : iv xa = .agg #[.int .u8 2, .int .i64 1, .int .u32 1, .int .i64 0, .int .i64 2, .int .i64 0, .int .i64 3, .int .i64 0, .int .i64 0, .int .i64 4, .int .i64 1, .int .i64 0, .int .i64 0] := rfl
theorem xa_ok : OkI xa := by unfold OkI xa Z64; decide
theorem xa_small : SmallI xa := by unfold SmallI xa; decide
theorem xa_may : mayI xa 1 4 9 = true := by decide +kernel
theorem xa_may0 : mayI xa 0 0 0 = false := by decide +kernel
theorem xa_words : (ofI xa).1 = la := by decide +kernel
theorem xa_wordsI : wordsI xa = la := by decide +kernel
theorem zeros8_no : decF (List.replicate 8 0) 1 4 9 = some (7, 7) := by decide +kernel
theorem zeros8_wd : ∀ x ∈ List.replicate 8 0, x < 18446744073709551616 := by
  intro x hx
  rw [List.eq_of_mem_replicate hx]
  decide
theorem keep13 {W W' : World} {b : Nat} {v0 v1 v2 v3 v4 v5 v6 v7 v8 v9 v10 v11 v12 : Value}
    (h : W.cell? ⟨b, 0, none⟩ = some v0 ∧ W.cell? ⟨b, 1, none⟩ = some v1 ∧ W.cell? ⟨b, 2, none⟩ = some v2 ∧ W.cell? ⟨b, 3, none⟩ = some v3 ∧ W.cell? ⟨b, 4, none⟩ = some v4 ∧ W.cell? ⟨b, 5, none⟩ = some v5 ∧ W.cell? ⟨b, 6, none⟩ = some v6 ∧ W.cell? ⟨b, 7, none⟩ = some v7 ∧ W.cell? ⟨b, 8, none⟩ = some v8 ∧ W.cell? ⟨b, 9, none⟩ = some v9 ∧ W.cell? ⟨b, 10, none⟩ = some v10 ∧ W.cell? ⟨b, 11, none⟩ = some v11 ∧ W.cell? ⟨b, 12, none⟩ = some v12) (hb : Below W.heap.size W W') :
    W'.cell? ⟨b, 0, none⟩ = some v0 ∧ W'.cell? ⟨b, 1, none⟩ = some v1 ∧ W'.cell? ⟨b, 2, none⟩ = some v2 ∧ W'.cell? ⟨b, 3, none⟩ = some v3 ∧ W'.cell? ⟨b, 4, none⟩ = some v4 ∧ W'.cell? ⟨b, 5, none⟩ = some v5 ∧ W'.cell? ⟨b, 6, none⟩ = some v6 ∧ W'.cell? ⟨b, 7, none⟩ = some v7 ∧ W'.cell? ⟨b, 8, none⟩ = some v8 ∧ W'.cell? ⟨b, 9, none⟩ = some v9 ∧ W'.cell? ⟨b, 10, none⟩ = some v10 ∧ W'.cell? ⟨b, 11, none⟩ = some v11 ∧ W'.cell? ⟨b, 12, none⟩ = some v12 := by
  obtain ⟨h0, h1, h2, h3, h4, h5, h6, h7, h8, h9, h10, h11, h12⟩ := h
  have K : ∀ (p : Addr) (v : Value), W.cell? p = some v → W'.cell? p = some v := fun p v hv => (hb.cell (World.block_lt_of_cell? _ _ hv)).trans hv
  exact ⟨K _ _ h0, K _ _ h1, K _ _ h2, K _ _ h3, K _ _ h4, K _ _ h5, K _ _ h6, K _ _ h7, K _ _ h8, K _ _ h9, K _ _ h10, K _ _ h11, K _ _ h12⟩
theorem keep28 {W W' : World} {b b' g : Nat} {v0 v1 v2 v3 v4 v5 v6 v7 v8 v9 v10 v11 v12 u0 u1 u2 u3 u4 u5 u6 u7 u8 u9 u10 u11 u12 k0 k3 : Value}
    (h : (W.cell? ⟨b, 0, none⟩ = some v0 ∧ W.cell? ⟨b, 1, none⟩ = some v1 ∧ W.cell? ⟨b, 2, none⟩ = some v2 ∧ W.cell? ⟨b, 3, none⟩ = some v3 ∧ W.cell? ⟨b, 4, none⟩ = some v4 ∧ W.cell? ⟨b, 5, none⟩ = some v5 ∧ W.cell? ⟨b, 6, none⟩ = some v6 ∧ W.cell? ⟨b, 7, none⟩ = some v7 ∧ W.cell? ⟨b, 8, none⟩ = some v8 ∧ W.cell? ⟨b, 9, none⟩ = some v9 ∧ W.cell? ⟨b, 10, none⟩ = some v10 ∧ W.cell? ⟨b, 11, none⟩ = some v11 ∧ W.cell? ⟨b, 12, none⟩ = some v12) ∧ (W.cell? ⟨b', 0, none⟩ = some u0 ∧ W.cell? ⟨b', 1, none⟩ = some u1 ∧ W.cell? ⟨b', 2, none⟩ = some u2 ∧ W.cell? ⟨b', 3, none⟩ = some u3 ∧ W.cell? ⟨b', 4, none⟩ = some u4 ∧ W.cell? ⟨b', 5, none⟩ = some u5 ∧ W.cell? ⟨b', 6, none⟩ = some u6 ∧ W.cell? ⟨b', 7, none⟩ = some u7 ∧ W.cell? ⟨b', 8, none⟩ = some u8 ∧ W.cell? ⟨b', 9, none⟩ = some u9 ∧ W.cell? ⟨b', 10, none⟩ = some u10 ∧ W.cell? ⟨b', 11, none⟩ = some u11 ∧ W.cell? ⟨b', 12, none⟩ = some u12) ∧ W.cell? ⟨g, 0, none⟩ = some k0 ∧ W.cell? ⟨g, 3, none⟩ = some k3) (hb : Below W.heap.size W W') :
    (W'.cell? ⟨b, 0, none⟩ = some v0 ∧ W'.cell? ⟨b, 1, none⟩ = some v1 ∧ W'.cell? ⟨b, 2, none⟩ = some v2 ∧ W'.cell? ⟨b, 3, none⟩ = some v3 ∧ W'.cell? ⟨b, 4, none⟩ = some v4 ∧ W'.cell? ⟨b, 5, none⟩ = some v5 ∧ W'.cell? ⟨b, 6, none⟩ = some v6 ∧ W'.cell? ⟨b, 7, none⟩ = some v7 ∧ W'.cell? ⟨b, 8, none⟩ = some v8 ∧ W'.cell? ⟨b, 9, none⟩ = some v9 ∧ W'.cell? ⟨b, 10, none⟩ = some v10 ∧ W'.cell? ⟨b, 11, none⟩ = some v11 ∧ W'.cell? ⟨b, 12, none⟩ = some v12) ∧ (W'.cell? ⟨b', 0, none⟩ = some u0 ∧ W'.cell? ⟨b', 1, none⟩ = some u1 ∧ W'.cell? ⟨b', 2, none⟩ = some u2 ∧ W'.cell? ⟨b', 3, none⟩ = some u3 ∧ W'.cell? ⟨b', 4, none⟩ = some u4 ∧ W'.cell? ⟨b', 5, none⟩ = some u5 ∧ W'.cell? ⟨b', 6, none⟩ = some u6 ∧ W'.cell? ⟨b', 7, none⟩ = some u7 ∧ W'.cell? ⟨b', 8, none⟩ = some u8 ∧ W'.cell? ⟨b', 9, none⟩ = some u9 ∧ W'.cell? ⟨b', 10, none⟩ = some u10 ∧ W'.cell? ⟨b', 11, none⟩ = some u11 ∧ W'.cell? ⟨b', 12, none⟩ = some u12) ∧ W'.cell? ⟨g, 0, none⟩ = some k0 ∧ W'.cell? ⟨g, 3, none⟩ = some k3 :=
  ⟨keep13 h.1 hb, keep13 h.2.1 hb, (hb.cell (World.block_lt_of_cell? _ _ h.2.2.1)).trans h.2.2.1, (hb.cell (World.block_lt_of_cell? _ _ h.2.2.2)).trans h.2.2.2⟩
theorem geom_any (w : World) : Calls Tryd.prog 21 #[] w fun e w' => e = .returned (.agg #[.int .i64 1, .int .i64 4, .int .i64 9]) ∧ Below w.heap.size w w' := by
  go_enter Tryd.func21, Tryd.ntmps21
  go_wp2
  refine bodyPost_ret (v := .agg #[.int .i64 1, .int .i64 4, .int .i64 9]) (by unfold results; go_simp) rfl ⟨rfl, ?_⟩
  exact (Below.refl _ _).alloc (Nat.le_refl _) _
theorem below_set13 {w a : World} {b : Nat} {v0 v1 v2 v3 v4 v5 v6 v7 v8 v9 v10 v11 v12 : Value} (h : Below w.heap.size w a) (hb : w.heap.size ≤ b) : Below w.heap.size w (((((((((((((a.setCell ⟨b, 0, none⟩ v0).setCell ⟨b, 1, none⟩ v1).setCell ⟨b, 2, none⟩ v2).setCell ⟨b, 3, none⟩ v3).setCell ⟨b, 4, none⟩ v4).setCell ⟨b, 5, none⟩ v5).setCell ⟨b, 6, none⟩ v6).setCell ⟨b, 7, none⟩ v7).setCell ⟨b, 8, none⟩ v8).setCell ⟨b, 9, none⟩ v9).setCell ⟨b, 10, none⟩ v10).setCell ⟨b, 11, none⟩ v11).setCell ⟨b, 12, none⟩ v12) := by
  repeat (refine Below.setCell ?_ (by dsimp only; omega) _)
  exact h
theorem bx_drew {Y wN : World} {cs : Array Value} (hb : Below ((Y.alloc (.cells cs 25)).drew).heap.size ((Y.alloc (.cells cs 25)).drew) wN) : wN.heap[Y.heap.size]? = some (.cells cs 25 (0, 0)) :=
  blk_below (W := (Y.alloc (.cells cs 25)).drew) (heap_alloc_new Y _) hb
theorem bx_old_drew {Y wN : World} {cs cs' : Array Value} (hb : Below (((Y.alloc (.cells cs 25)).alloc (.cells cs' 44)).drew).heap.size (((Y.alloc (.cells cs 25)).alloc (.cells cs' 44)).drew) wN) : wN.heap[Y.heap.size]? = some (.cells cs 25 (0, 0)) :=
  blk_below (W := ((Y.alloc (.cells cs 25)).alloc (.cells cs' 44)).drew) ((heap_alloc_old _ _ (by simp)).trans (heap_alloc_new Y _)) hb
theorem bx_new {Y wN : World} {cs : Array Value} (hb : Below (Y.alloc (.cells cs 25)).heap.size (Y.alloc (.cells cs 25)) wN) : wN.heap[Y.heap.size]? = some (.cells cs 25 (0, 0)) :=
  blk_below (heap_alloc_new Y _) hb
theorem bx_old {Y wN : World} {cs cs' : Array Value} (hb : Below ((Y.alloc (.cells cs 25)).alloc (.cells cs' 44)).heap.size ((Y.alloc (.cells cs 25)).alloc (.cells cs' 44)) wN) : wN.heap[Y.heap.size]? = some (.cells cs 25 (0, 0)) :=
  blk_below ((heap_alloc_old _ _ (by simp)).trans (heap_alloc_new Y _)) hb
theorem bx_keep {Y wN : World} {b : Nat} {o : Obj} {cs' : Array Value} (h : Y.heap[b]? = some o) (hb : Below (Y.alloc (.cells cs' 44)).heap.size (Y.alloc (.cells cs' 44)) wN) : wN.heap[b]? = some o :=
  blk_below ((heap_alloc_old _ _ (lt_of_block h)).trans h) hb
/-- the world of alive: the record's box, what was encoded -/
structure AlSt (w wx : World) (g : Nat) : Prop where
  box : wx.heap[w.heap.size]? = some (.cells #[.int .u8 2, .int .i64 1, .int .u32 1, .int .i64 0, .int .i64 2, .int .i64 0, .int .i64 3, .int .i64 0, .int .i64 0, .int .i64 4, .int .i64 1, .int .i64 0, .int .i64 0] 25 (0, 0))
  q0 : wx.cell? ⟨g, 0, none⟩ = some (.int .u64 4294967554)
  q3 : wx.cell? ⟨g, 3, none⟩ = some (.int .u64 67108867)
  bel : Below w.heap.size w wx
theorem AlSt.below {w wx wy : World} {g : Nat} (h : AlSt w wx g) (hb : Below wx.heap.size wx wy) : AlSt w wy g :=
  ⟨blk_below h.box hb, (hb.cell (World.block_lt_of_cell? _ _ h.q0)).trans h.q0, (hb.cell (World.block_lt_of_cell? _ _ h.q3)).trans h.q3, below_then h.bel hb⟩

set_option maxRecDepth 100000 in
set_option maxHeartbeats 16000000 in
theorem alive_any (w : World) (hg : Laid w) : Calls Tryd.prog 10 #[] w fun e w' => e = .returned (.bool true) ∧ Below w.heap.size w w' := by
  have HG := Lib.hid hg
  have hE : ∀ W, Calls Tryd.prog 7 #[.agg #[.int .u8 2, .int .i64 1, .int .u32 1, .int .i64 0, .int .i64 2, .int .i64 0, .int .i64 3, .int .i64 0, .int .i64 0, .int .i64 4, .int .i64 1, .int .i64 0, .int .i64 0], .agg #[.int .i64 1, .int .i64 4, .int .i64 9]] W fun e w' => ∃ g c, e = .returned (.tuple #[.slice (some ⟨g, 0, none⟩) 8 c, .int .i64 0]) ∧ Rd w' (.slice (some ⟨g, 0, none⟩) 8 c) 8 (u64s (sealed la)) ∧ w'.cell? ⟨g, 0, none⟩ = some (.int .u64 4294967554) ∧ w'.cell? ⟨g, 3, none⟩ = some (.int .u64 67108867) ∧ Below W.heap.size W w' := fun W => by
    have h := Encode_yes xa xa_ok 1 4 9 xa_may W
    rw [xa_words] at h
    refine h.mono ?_
    rintro e w' ⟨A, c, rfl, ho, hb⟩
    obtain ⟨g, cap, hv, hg, hlt⟩ := World.ownsRow.form (n := 8) ho (by omega)
    injection hv with hA _ hc
    subst hA
    exact ⟨g, c, rfl, Rd.of_own ho, ho.cellAt 0 (by decide), ho.cellAt 3 (by decide), hb⟩
  have hD1 : ∀ W v, Rd W v 8 (u64s (sealed la)) → Calls Tryd.prog 15 #[v, .agg #[.int .i64 1, .int .i64 4, .int .i64 9]] W fun e w' => e = .returned (.tuple #[.agg #[.int .u8 2, .int .i64 1, .int .u32 1, .int .i64 0, .int .i64 2, .int .i64 0, .int .i64 3, .int .i64 0, .int .i64 0, .int .i64 4, .int .i64 1, .int .i64 0, .int .i64 0], .nilIface]) ∧ Below W.heap.size W w' := fun W v hr => by
    obtain ⟨d0, d1, d2⟩ := dec_enc xa xa_ok 1 4 9 xa_may
    rw [xa_wordsI] at d0 d1 d2
    refine (Decode_any v (sealed la) 1 4 9 W (by rw [← xa_wordsI]; exact sealed_wd (wordsI_wd xa xa_ok xa_small)) (by decide) hr).mono ?_
    rintro e w' (⟨_, h1, h2⟩ | ⟨a, er, h, _⟩)
    · rw [d1, d2, iv_xa] at h1
      exact ⟨h1, h2⟩
    · rw [d0] at h; cases h
  have hD0 : ∀ W v, Rd W v 8 (u64s (List.replicate 8 0)) → Calls Tryd.prog 15 #[v, .agg #[.int .i64 1, .int .i64 4, .int .i64 9]] W fun e w' => e = .returned (.tuple #[.agg #[.int .u8 0, .int .i64 0, .int .u32 0, .int .i64 0, .int .i64 0, .int .i64 0, .int .i64 0, .int .i64 0, .int .i64 0, .int .i64 0, .int .i64 0, .int .i64 0, .int .i64 0], .iface 52 (.agg #[.int .i64 7, .int .i64 7])]) ∧ Below W.heap.size W w' := fun W v hr => by
    refine (Decode_any v (List.replicate 8 0) 1 4 9 W zeros8_wd (by decide) hr).mono ?_
    rintro e w' (⟨h, _⟩ | ⟨a, er, h, h1, h2⟩)
    · rw [zeros8_no] at h; cases h
    · rw [zeros8_no] at h
      injection h with h
      injection h with e1 e2
      subst e1; subst e2
      rw [iv_zero] at h1
      exact ⟨h1, h2⟩
  have hM1 : ∀ W, Calls Tryd.prog 9 #[.agg #[.int .u8 2, .int .i64 1, .int .u32 1, .int .i64 0, .int .i64 2, .int .i64 0, .int .i64 3, .int .i64 0, .int .i64 0, .int .i64 4, .int .i64 1, .int .i64 0, .int .i64 0], .agg #[.int .i64 1, .int .i64 4, .int .i64 9]] W fun e w' => e = .returned (.bool true) ∧ Below W.heap.size W w' := fun W => by
    have h := May_any xa xa_ok 1 4 9 W
    rw [xa_may] at h
    exact h
  have hM0 : ∀ W, Calls Tryd.prog 9 #[.agg #[.int .u8 2, .int .i64 1, .int .u32 1, .int .i64 0, .int .i64 2, .int .i64 0, .int .i64 3, .int .i64 0, .int .i64 0, .int .i64 4, .int .i64 1, .int .i64 0, .int .i64 0], .agg #[.int .i64 0, .int .i64 0, .int .i64 0]] W fun e w' => e = .returned (.bool false) ∧ Below W.heap.size W w' := fun W => by
    have h := May_any xa xa_ok 0 0 0 W
    rw [xa_may0] at h
    exact h
  have HE := Lib.hid hE
  have HD1 := Lib.hid hD1
  have HD0 := Lib.hid hD0
  have HM1 := Lib.hid hM1
  have HM0 := Lib.hid hM0
  have HGm := Lib.hid geom_any
  have HTd := Lib.hid (fun W (hW : Laid W) => told_same 7 W hW)
  have hq := run_eqI_self
  have hgd := guard_eqI
  obtain ⟨i0, hi, hz0, hz1, hz2⟩ := info_parts info64
  have HX0 := Lib.hid (show (w.alloc (.cells #[.int .u8 2, .int .i64 1, .int .u32 1, .int .i64 0, .int .i64 2, .int .i64 0, .int .i64 3, .int .i64 0, .int .i64 0, .int .i64 4, .int .i64 1, .int .i64 0, .int .i64 0] 25)).heap[w.heap.size]? = some (.cells #[.int .u8 2, .int .i64 1, .int .u32 1, .int .i64 0, .int .i64 2, .int .i64 0, .int .i64 3, .int .i64 0, .int .i64 0, .int .i64 4, .int .i64 1, .int .i64 0, .int .i64 0] 25 (0, 0)) from heap_alloc_new w _)
  have HB0 := Lib.hid ((Below.refl _ w).alloc (Nat.le_refl _) (.cells #[.int .u8 2, .int .i64 1, .int .u32 1, .int .i64 0, .int .i64 2, .int .i64 0, .int .i64 3, .int .i64 0, .int .i64 0, .int .i64 4, .int .i64 1, .int .i64 0, .int .i64 0] 25))
  clear hE hD1 hD0 hM1 hM0 hg
  obtain ⟨c0, c1, c2, c3, c4, c5, c6, c7, c8, c9, c10, c11, c12⟩ := blk13 HX0.out
  have hK := And.intro c0 (And.intro c1 (And.intro c2 (And.intro c3 (And.intro c4 (And.intro c5 (And.intro c6 (And.intro c7 (And.intro c8 (And.intro c9 (And.intro c10 (And.intro c11 c12)))))))))))
  have HK := Lib.hid hK
  clear hK c0 c1 c2 c3 c4 c5 c6 c7 c8 c9 c10 c11 c12
  go_enter Tryd.func10, Tryd.ntmps10
  go_wp2
  go_region_held3 (fun w' => w'.cell? ⟨w.heap.size, 0, none⟩ = some (.int .u8 2) ∧ w'.cell? ⟨w.heap.size, 1, none⟩ = some (.int .i64 1) ∧ w'.cell? ⟨w.heap.size, 2, none⟩ = some (.int .u32 1) ∧ w'.cell? ⟨w.heap.size, 3, none⟩ = some (.int .i64 0) ∧ w'.cell? ⟨w.heap.size, 4, none⟩ = some (.int .i64 2) ∧ w'.cell? ⟨w.heap.size, 5, none⟩ = some (.int .i64 0) ∧ w'.cell? ⟨w.heap.size, 6, none⟩ = some (.int .i64 3) ∧ w'.cell? ⟨w.heap.size, 7, none⟩ = some (.int .i64 0) ∧ w'.cell? ⟨w.heap.size, 8, none⟩ = some (.int .i64 0) ∧ w'.cell? ⟨w.heap.size, 9, none⟩ = some (.int .i64 4) ∧ w'.cell? ⟨w.heap.size, 10, none⟩ = some (.int .i64 1) ∧ w'.cell? ⟨w.heap.size, 11, none⟩ = some (.int .i64 0) ∧ w'.cell? ⟨w.heap.size, 12, none⟩ = some (.int .i64 0))
    (first | exact HK.out | (refine keep13 ?_ hbN; assumption))
    (first
      | (go_at_call 21; (with_reducible refine (HGm.out _).mono ?_); rintro e wN ⟨rfl, hbN⟩; have HBg := Lib.hid (below_then HB0.out.drew hbN); have HXg := Lib.hid (blk_below (W := (w.alloc (.cells #[.int .u8 2, .int .i64 1, .int .u32 1, .int .i64 0, .int .i64 2, .int .i64 0, .int .i64 3, .int .i64 0, .int .i64 0, .int .i64 4, .int .i64 1, .int .i64 0, .int .i64 0] 25)).drew) HX0.out hbN))
      | (go_at_call 7; (with_reducible refine (HE.out _).mono ?_); rintro e w1 ⟨g, c, rfl, hr1, q0, q3, hbN⟩; have HR1 := Lib.hid hr1; have HA1 := Lib.hid (show AlSt w w1 g from ⟨blk_below HXg.out hbN, q0, q3, below_then HBg.out hbN⟩)))
  have HA1 := Lib.hid HA1.out
  go_wp2_with fail
  refine (HGm.out _).mono ?_
  rintro e w2 ⟨rfl, hb2⟩
  have HA2 := Lib.hid (HA1.out.below hb2)
  have HR2 := Lib.hid (HR1.out.below hb2)
  clear hb2
  go_wp2_with fail
  refine (HD1.out _ _ HR2.out).mono ?_
  rintro e w3 ⟨rfl, hb3⟩
  have hbY := hb3.alloc hb3.size (.cells #[.int .u8 2, .int .i64 1, .int .u32 1, .int .i64 0, .int .i64 2, .int .i64 0, .int .i64 3, .int .i64 0, .int .i64 0, .int .i64 4, .int .i64 1, .int .i64 0, .int .i64 0] 25)
  have HA3 := Lib.hid (HA2.out.below hbY)
  have HY3 := Lib.hid (show (w3.alloc (.cells #[.int .u8 2, .int .i64 1, .int .u32 1, .int .i64 0, .int .i64 2, .int .i64 0, .int .i64 3, .int .i64 0, .int .i64 0, .int .i64 4, .int .i64 1, .int .i64 0, .int .i64 0] 25)).heap[w3.heap.size]? = some (.cells #[.int .u8 2, .int .i64 1, .int .u32 1, .int .i64 0, .int .i64 2, .int .i64 0, .int .i64 3, .int .i64 0, .int .i64 0, .int .i64 4, .int .i64 1, .int .i64 0, .int .i64 0] 25 (0, 0)) from heap_alloc_new w3 _)
  clear hb3 hbY
  go_upto_region 4 with (fail)
  generalize w3.alloc (.cells #[.int .u8 2, .int .i64 1, .int .u32 1, .int .i64 0, .int .i64 2, .int .i64 0, .int .i64 3, .int .i64 0, .int .i64 0, .int .i64 4, .int .i64 1, .int .i64 0, .int .i64 0] 25) = w4 at *
  generalize w3.heap.size = b4 at *
  go_cut [6, 7] from 22 to 27 (fun s6 s7 wx => ∃ b6 : Nat, s6 = .pointer (some ⟨b6, 0, none⟩) ∧ s7 = .iface 52 (.agg #[.int .i64 7, .int .i64 7]) ∧ AlSt w wx g ∧ wx.heap[b4]? = some (.cells #[.int .u8 2, .int .i64 1, .int .u32 1, .int .i64 0, .int .i64 2, .int .i64 0, .int .i64 3, .int .i64 0, .int .i64 0, .int .i64 4, .int .i64 1, .int .i64 0, .int .i64 0] 25 (0, 0)))
  case first =>
    clear HE HD1 HM1 HM0 HTd hq hgd HK HX0 HB0 HBg HXg
    have hmk : ∀ w, (Instr.makeSlice 28 (.int .i64 8) (.int .i64 8)).run Tryd.prog w = .ok (.slice (some ⟨w.heap.size, 0, none⟩) 8 8) (w.alloc (.cells #[.int .u64 0, .int .u64 0, .int .u64 0, .int .u64 0, .int .u64 0, .int .u64 0, .int .u64 0, .int .u64 0] 44)) := fun _ => by kernel_rfl
    have HZ : Hid (∀ W : World, Rd (W.alloc (.cells #[.int .u64 0, .int .u64 0, .int .u64 0, .int .u64 0, .int .u64 0, .int .u64 0, .int .u64 0, .int .u64 0] 44)) (.slice (some ⟨W.heap.size, 0, none⟩) 8 8) 8 (u64s (List.replicate 8 0))) := Lib.hid (fun W => Rd.new W (u64s (List.replicate 8 0)) 44 (by show 8 ≤ 65536; decide) 8 (by decide))
    have HZ1 : Hid (∀ (W : World) (cs : Array Value) (t : TypeId), Rd ((W.alloc (.cells cs t)).alloc (.cells #[.int .u64 0, .int .u64 0, .int .u64 0, .int .u64 0, .int .u64 0, .int .u64 0, .int .u64 0, .int .u64 0] 44)) (.slice (some ⟨W.heap.size + 1, 0, none⟩) 8 8) 8 (u64s (List.replicate 8 0))) := Lib.hid (fun W cs t => by
      have h := HZ.out (W.alloc (.cells cs t))
      rw [World.size_alloc] at h
      exact h)
    go_region_held3 (fun w' => Below w4.heap.size w4 w')
      (with_reducible repeat (first | assumption | exact Below.refl _ _ | exact Nat.le_refl _ | refine Below.drew ?_ | refine Below.alloc ?_ ?_ _ | refine below_set13 ?_ ?_ | exact HBN.out.size | exact Nat.le_succ_of_le HBN.out.size | refine Below.size (B := w4.heap.size) ?_ | exact Nat.le_succ _ | refine Nat.le_succ_of_le ?_ | refine below_then ?_ hbN))
      (first
        | ((go_at_call 21; (with_reducible refine (HGm.out _).mono ?_); rintro e wN ⟨rfl, hbN⟩); (have HBN : Hid (Below w4.heap.size w4 wN) := Lib.hid (below_then (by assumption) hbN)); (first | (with_reducible have HBx := Lib.hid (bx_drew hbN)) | (with_reducible have HBx := Lib.hid (bx_old_drew hbN)) | skip))
        | (go_at_call 15; (with_reducible refine (HD0.out _ _ (by repeat (first | exact HZ.out _ | exact HZ1.out _ _ _ | refine Rd.drew ?_ | refine Rd.alloc ?_ _ | refine Rd.below ?_ hbN))).mono ?_); rintro e wD ⟨rfl, hbN⟩; (first | (with_reducible have hBx := bx_new hbN) | (with_reducible have hBx := bx_old hbN) | (with_reducible have hBx := blk_below HBx.out hbN) | (with_reducible have hBx := bx_keep HBx.out hbN) | skip); (try simp only [World.size_alloc] at hBx); (first | (obtain ⟨z0, z1, z2, z3, z4, z5, z6, z7, z8, z9, z10, z11, z12⟩ := blk13 hBx; obtain ⟨f0, f1, f2, f3, f4, f5, f6, f7, f8, f9, f10, f11, f12⟩ := frz13 hBx; clear hBx) | skip)))
    all_goals go_wp2_with fail
    all_goals go_meet
    all_goals exact ⟨_, rfl, rfl, HA3.out.below (by assumption), blk_below HY3.out (by assumption)⟩
  case rest =>
    obtain ⟨b6, rfl, rfl, hA5, hY5⟩ := hcut
    have HA5 := Lib.hid hA5
    have q0 := hA5.q0
    have q3 := hA5.q3
    obtain ⟨y0, y1, y2, y3, y4, y5, y6, y7, y8, y9, y10, y11, y12⟩ := blk13 hY5
    obtain ⟨c0, c1, c2, c3, c4, c5, c6, c7, c8, c9, c10, c11, c12⟩ := blk13 hA5.box
    have hK5 := And.intro c0 (And.intro c1 (And.intro c2 (And.intro c3 (And.intro c4 (And.intro c5 (And.intro c6 (And.intro c7 (And.intro c8 (And.intro c9 (And.intro c10 (And.intro c11 c12)))))))))))
    have HK5 := Lib.hid (And.intro hK5 (And.intro (And.intro y0 (And.intro y1 (And.intro y2 (And.intro y3 (And.intro y4 (And.intro y5 (And.intro y6 (And.intro y7 (And.intro y8 (And.intro y9 (And.intro y10 (And.intro y11 y12)))))))))))) (And.intro q0 q3)))
    clear q0 q3 y0 y1 y2 y3 y4 y5 y6 y7 y8 y9 y10 y11 y12
    clear hA5 hY5 hK5 HE HD1 HD0 HK HX0 HB0 HBg HXg HA1 HA2 HA3 HR1 HR2 HY3 c0 c1 c2 c3 c4 c5 c6 c7 c8 c9 c10 c11 c12
    go_wp2_with fail
    go_region_held3 (fun w' => (w'.cell? ⟨w.heap.size, 0, none⟩ = some (.int .u8 2) ∧ w'.cell? ⟨w.heap.size, 1, none⟩ = some (.int .i64 1) ∧ w'.cell? ⟨w.heap.size, 2, none⟩ = some (.int .u32 1) ∧ w'.cell? ⟨w.heap.size, 3, none⟩ = some (.int .i64 0) ∧ w'.cell? ⟨w.heap.size, 4, none⟩ = some (.int .i64 2) ∧ w'.cell? ⟨w.heap.size, 5, none⟩ = some (.int .i64 0) ∧ w'.cell? ⟨w.heap.size, 6, none⟩ = some (.int .i64 3) ∧ w'.cell? ⟨w.heap.size, 7, none⟩ = some (.int .i64 0) ∧ w'.cell? ⟨w.heap.size, 8, none⟩ = some (.int .i64 0) ∧ w'.cell? ⟨w.heap.size, 9, none⟩ = some (.int .i64 4) ∧ w'.cell? ⟨w.heap.size, 10, none⟩ = some (.int .i64 1) ∧ w'.cell? ⟨w.heap.size, 11, none⟩ = some (.int .i64 0) ∧ w'.cell? ⟨w.heap.size, 12, none⟩ = some (.int .i64 0)) ∧ (w'.cell? ⟨b4, 0, none⟩ = some (.int .u8 2) ∧ w'.cell? ⟨b4, 1, none⟩ = some (.int .i64 1) ∧ w'.cell? ⟨b4, 2, none⟩ = some (.int .u32 1) ∧ w'.cell? ⟨b4, 3, none⟩ = some (.int .i64 0) ∧ w'.cell? ⟨b4, 4, none⟩ = some (.int .i64 2) ∧ w'.cell? ⟨b4, 5, none⟩ = some (.int .i64 0) ∧ w'.cell? ⟨b4, 6, none⟩ = some (.int .i64 3) ∧ w'.cell? ⟨b4, 7, none⟩ = some (.int .i64 0) ∧ w'.cell? ⟨b4, 8, none⟩ = some (.int .i64 0) ∧ w'.cell? ⟨b4, 9, none⟩ = some (.int .i64 4) ∧ w'.cell? ⟨b4, 10, none⟩ = some (.int .i64 1) ∧ w'.cell? ⟨b4, 11, none⟩ = some (.int .i64 0) ∧ w'.cell? ⟨b4, 12, none⟩ = some (.int .i64 0)) ∧ w'.cell? ⟨g, 0, none⟩ = some (.int .u64 4294967554) ∧ w'.cell? ⟨g, 3, none⟩ = some (.int .u64 67108867))
      (first | exact HK5.out | (refine keep28 ?_ hbN; assumption))
      (first
        | (go_at_call 21; (with_reducible refine (HGm.out _).mono ?_); rintro e wN ⟨rfl, hbN⟩; have HBg := Lib.hid (below_then HBt.out hbN))
        | (go_at_call 9; (with_reducible refine (HM1.out _).mono ?_); rintro e wM ⟨rfl, hbN⟩; have HBm := Lib.hid (below_then HBg.out hbN))
        | (go_at_call 9; (with_reducible refine (HM0.out _).mono ?_); rintro e wL ⟨rfl, hbN⟩; have HBl := Lib.hid (below_then HBm.out hbN))
        | (go_at_call 22; refine (HTd.out _ (HG.out.below HA5.out.bel.drew)).mono ?_; rintro e wT ⟨rfl, hbN⟩; have HBt := Lib.hid (below_then HA5.out.bel.drew hbN)))
    go_wp2
    go_ret
    exact ⟨rfl, HBl.out⟩
end Go.Proofs.YtnpmepklgakaiaaDoor
