/- geom.What. -/
import Derived.Test.YtpjhjpcajdbinaaGeomWhat0
import Derived.RegionTactic
namespace Go.Proofs.Ytpjhjpcajdbinaa
open Go.RowKit
set_option linter.unusedVariables false

/-- a region's value, and an error -/
def OutR (w : World) (k n o e : Int) (r : Ending) (w' : World) : Prop := r = .returned (.tuple #[.agg #[.int .u8 k, .int .i64 n, .int .i64 o], .int .i64 e]) ∧ Below w.heap.size w w'

theorem set3 {n : Nat} {w W : World} {b : Nat} (h : Below n w W) (hn : n ≤ b) (v0 v1 v2 : Value) : Below n w (((W.setCell ⟨b, 0, none⟩ v0).setCell ⟨b, 1, none⟩ v1).setCell ⟨b, 2, none⟩ v2) :=
  ((h.setCell (p := ⟨b, 0, none⟩) hn _).setCell (p := ⟨b, 1, none⟩) hn _).setCell (p := ⟨b, 2, none⟩) hn _

set_option maxHeartbeats 2000000 in
theorem What_arg (P I B at_ : Int) (h : ¬ MayG P I B) (w : World) : Calls Try.prog 7 #[gv P I B, .int .i64 at_] w (OutR w 0 0 0 2) := by
  have HL := Lib.hid (fun W => Lines_arg P I B h W)
  unfold gv at HL ⊢
  clear h
  go_enter Try.func7, Try.ntmps7
  go_wp2_with fail
  have hb0 : Below w.heap.size w ((w.alloc (.cells #[.int .i64 P, .int .i64 I, .int .i64 B] 23)).alloc (.cells #[.int .u8 0, .int .i64 0, .int .i64 0] 25)) := ((Below.refl _ _).alloc (Nat.le_refl _) _).alloc (by simp) _
  have hr0 : ((w.alloc (.cells #[.int .i64 P, .int .i64 I, .int .i64 B] 23)).alloc (.cells #[.int .u8 0, .int .i64 0, .int .i64 0] 25)).heap[w.heap.size + 1]? = some (.cells #[.int .u8 0, .int .i64 0, .int .i64 0] 25 (0, 0)) := by
    have := heap_alloc_new (w.alloc (.cells #[.int .i64 P, .int .i64 I, .int .i64 B] 23)) (.cells #[.int .u8 0, .int .i64 0, .int .i64 0] 25)
    rwa [World.size_alloc] at this
  have HB0 := Lib.hid hb0
  have HR0 := Lib.hid hr0
  clear hb0 hr0
  refine (HL.out _).mono ?_
  rintro e w1 ⟨rfl, hb⟩
  obtain ⟨g0, g1, g2, f0, f1, f2⟩ := blk3 (blk_below HR0.out hb)
  have hb1 := below_on HB0.out (Nat.le_refl _) hb
  have HB1 := Lib.hid hb1
  clear hb hb1
  go_wp2
  refine bodyPost_ret (v := .tuple #[.agg #[.int .u8 0, .int .i64 0, .int .i64 0], .int .i64 2]) (by unfold results; go_simp) rfl ?_
  exact ⟨rfl, set3 HB1.out (by omega) _ _ _⟩
/-- what holds behind the box of the geometry and that of the result -/
structure Two (w : World) (P I B : Int) (k n o : Int) (W : World) : Prop where
  geo : W.heap[w.heap.size]? = some (.cells #[.int .i64 P, .int .i64 I, .int .i64 B] 23 (0, 0))
  res : W.heap[w.heap.size + 1]? = some (.cells #[.int .u8 k, .int .i64 n, .int .i64 o] 25 (0, 0))
  bel : Below w.heap.size w W
theorem Two.below {w W W' : World} {P I B k n o : Int} (h : Two w P I B k n o W) (hb : Below W.heap.size W W') : Two w P I B k n o W' := ⟨blk_below h.geo hb, blk_below h.res hb, below_on h.bel (Nat.le_refl _) hb⟩
theorem Two.lt {w W : World} {P I B k n o : Int} (h : Two w P I B k n o W) : w.heap.size + 1 < W.heap.size := (Array.getElem?_eq_some_iff.1 h.res).1
theorem Two.new (w : World) (P I B : Int) : Two w P I B 0 0 0 ((w.alloc (.cells #[.int .i64 P, .int .i64 I, .int .i64 B] 23)).alloc (.cells #[.int .u8 0, .int .i64 0, .int .i64 0] 25)) := by
  refine ⟨blk_below (heap_alloc_new w _) ((Below.refl _ _).alloc (Nat.le_refl _) _), ?_, ((Below.refl _ _).alloc (Nat.le_refl _) _).alloc (by simp) _⟩
  have := heap_alloc_new (w.alloc (.cells #[.int .i64 P, .int .i64 I, .int .i64 B] 23)) (.cells #[.int .u8 0, .int .i64 0, .int .i64 0] 25)
  rwa [World.size_alloc] at this

theorem Two.set {w W : World} {P I B k n o : Int} (h : Two w P I B k n o W) {D : Nat} (hD : w.heap.size + 1 < D) (j : Nat) (v : Value) : Two w P I B k n o (W.setCell ⟨D, j, none⟩ v) :=
  ⟨(Below.heap_setCell W ⟨D, j, none⟩ v w.heap.size (by show w.heap.size ≠ D; omega)).trans h.geo, (Below.heap_setCell W ⟨D, j, none⟩ v (w.heap.size + 1) (by show w.heap.size + 1 ≠ D; omega)).trans h.res, h.bel.setCell (p := ⟨D, j, none⟩) (by show w.heap.size ≤ D; omega) v⟩
theorem set_x {W : World} {D : Nat} {a b c : Value} {t : TypeId} (h : W.heap[D]? = some (.cells #[a, b, c] t (0, 0))) (c' b' c'' : Value) :
    (((W.setCell ⟨D, 2, none⟩ c').setCell ⟨D, 1, none⟩ b').setCell ⟨D, 2, none⟩ c'').drew.heap[D]? = some (.cells #[a, b', c''] t (0, 0)) := by
  have h1 := heap_setCell_same _ D 2 _ t c' h
  have h2 := heap_setCell_same _ D 1 _ t b' h1
  exact heap_setCell_same _ D 2 _ t c'' h2

theorem set_x2 {W : World} {D : Nat} {a b c : Value} {t : TypeId} (h : W.heap[D]? = some (.cells #[a, b, c] t (0, 0))) (b' c'' : Value) :
    ((W.setCell ⟨D, 1, none⟩ b').setCell ⟨D, 2, none⟩ c'').drew.heap[D]? = some (.cells #[a, b', c''] t (0, 0)) := by
  have h2 := heap_setCell_same _ D 1 _ t b' h
  exact heap_setCell_same _ D 2 _ t c'' h2

set_option maxHeartbeats 2000000 in
theorem What_none (P I B at_ : Int) (h : MayG P I B) (ha : at_ < 0 ∨ 8 * linesOf P I B ≤ at_) (w : World) : Calls Try.prog 7 #[gv P I B, .int .i64 at_] w (OutR w 0 0 0 3) := by
  have HL := Lib.hid (fun W => Lines_may P I B h W)
  have HT := Lib.hid (Two.new w P I B)
  unfold gv at HL ⊢
  have hln : 0 ≤ linesOf P I B ∧ linesOf P I B ≤ 5000 := by obtain ⟨_, _, _, _, _, _⟩ := h; unfold linesOf; omega
  obtain ⟨hn1, hn2⟩ := hln
  generalize linesOf P I B = L at *
  clear h
  by_cases h0 : decide (at_ < 0) = true
  · clear ha
    go_enter Try.func7, Try.ntmps7
    go_wp2_with fail
    refine (HL.out _).mono ?_
    rintro e w1 ⟨rfl, hb⟩
    have HT1 := Lib.hid (HT.out.below hb)
    obtain ⟨g0, g1, g2, f0, f1, f2⟩ := blk3 HT1.out.res
    clear hb
    go_wp2
    refine bodyPost_ret (v := .tuple #[.agg #[.int .u8 0, .int .i64 0, .int .i64 0], .int .i64 3]) (by unfold results; go_simp) rfl ?_
    exact ⟨rfl, set3 HT1.out.bel (by omega) _ _ _⟩
  · rw [Bool.not_eq_true] at h0
    have hd : decide (at_ ≥ 8 * L) = true := by simp at h0 ⊢; omega
    have hd' : decide (8 * L ≤ at_) = true := hd
    clear ha
    go_enter Try.func7, Try.ntmps7
    go_wp2_with fail
    refine (HL.out _).mono ?_
    rintro e w1 ⟨rfl, hb⟩
    have HT1 := Lib.hid (HT.out.below hb)
    obtain ⟨g0, g1, g2, f0, f1, f2⟩ := blk3 HT1.out.res
    clear hb
    go_wp2
    refine bodyPost_ret (v := .tuple #[.agg #[.int .u8 0, .int .i64 0, .int .i64 0], .int .i64 3]) (by unfold results; go_simp) rfl ?_
    exact ⟨rfl, set3 HT1.out.bel (by omega) _ _ _⟩


set_option maxHeartbeats 4000000 in
theorem What_block (P I B at_ : Int) (h : MayG P I B) (h0 : 0 ≤ at_) (h1 : at_ < 8 * linesOf P I B) (hk : 2 + I + 17 * P ≤ at_ / 8) (w : World) :
    Calls Try.prog 7 #[gv P I B, .int .i64 at_] w (OutR w 5 ((at_ - 8 * (2 + I + 17 * P)) / 32 + 1) ((at_ - 8 * (2 + I + 17 * P)) % 32) 0) := by
  have HL := Lib.hid (fun W => Lines_may P I B h W)
  have hkd : kdOf P I (at_ / 8) = 5 := by unfold kdOf; rw [if_pos hk]
  have hln : 0 ≤ linesOf P I B ∧ linesOf P I B ≤ 5000 := by obtain ⟨_, _, _, _, _, _⟩ := h; unfold linesOf; omega
  have HK := Lib.hid (fun W => kind_any P I B (at_ / 8) h (by unfold I64; omega) W)
  have HF := Lib.hid (fun W => blocks_may P I B h W)
  rw [hkd] at HK
  have HT := Lib.hid (Two.new w P I B)
  unfold gv at HL HK HF ⊢
  obtain ⟨hn1, hn2⟩ := hln
  have hF : 0 ≤ 2 + I + 17 * P ∧ 2 + I + 17 * P ≤ 5000 := by obtain ⟨_, _, _, _, _, _⟩ := h; omega
  generalize 2 + I + 17 * P = F at *
  generalize linesOf P I B = L at *
  obtain ⟨hF1, hF2⟩ := hF
  have hO : 0 ≤ at_ - 8 * F := by omega
  clear h hkd
  go_enter Try.func7, Try.ntmps7
  go_wp2_with fail
  refine (HL.out _).mono ?_
  rintro e w1 ⟨rfl, hb⟩
  have HT1 := Lib.hid (HT.out.below hb)
  obtain ⟨g0, g1, g2, _, _, _⟩ := blk3 HT1.out.geo
  clear hb HT
  go_wp2_with fail
  refine (HK.out _).mono ?_
  rintro e w2 ⟨rfl, hb⟩
  have HT2 := Lib.hid (HT1.out.below hb)
  have hb2 : w.heap.size + 1 < w2.heap.size := HT2.out.lt
  have hb3 : w.heap.size < w2.heap.size := by omega
  clear hb HT1 g0 g1 g2
  obtain ⟨g0, g1, g2, _, _, _⟩ := blk3 HT2.out.geo
  obtain ⟨r0, r1, r2, e0, e1, e2⟩ := blk3 HT2.out.res
  go_wp2_with fail
  refine (HF.out _).mono ?_
  rintro e w3 ⟨rfl, hb⟩
  have hx3 := blk_below (heap_alloc_new w2 _) hb
  have HT3 := Lib.hid ((HT2.out.below ((Below.refl _ _).alloc (Nat.le_refl _) _)).below hb)
  have hD : w.heap.size + 1 < w2.heap.size := hb2
  clear hb HT2 g0 g1 g2 r0 r1 r2 e0 e1 e2 hb2 hb3
  generalize w2.heap.size = D at *
  obtain ⟨g0, g1, g2, e0, e1, e2⟩ := blk3 hx3
  obtain ⟨r0, r1, r2, s0, s1, s2⟩ := blk3 HT3.out.res
  go_wp2
  go_region
  obtain ⟨W4, hW4⟩ : ∃ W4, W4 = (((w3.setCell ⟨D, 2, none⟩ (.int .i64 (at_ - 8 * F))).setCell ⟨D, 1, none⟩ (.int .i64 ((at_ - 8 * F) / 32))).setCell ⟨D, 2, none⟩ (.int .i64 ((at_ - 8 * F) % 32))).drew := ⟨_, rfl⟩
  have hx4 : W4.heap[D]? = some (.cells #[.int .u8 5, .int .i64 ((at_ - 8 * F) / 32), .int .i64 ((at_ - 8 * F) % 32)] 25 (0, 0)) := by rw [hW4]; exact set_x hx3 (.int .i64 (at_ - 8 * F)) (.int .i64 ((at_ - 8 * F) / 32)) (.int .i64 ((at_ - 8 * F) % 32))
  have HT4 : Hid (Two w P I B 0 0 0 W4) := Lib.hid (by
    rw [hW4]
    have := ((HT3.out.set hD 2 (.int .i64 (at_ - 8 * F))).set hD 1 (.int .i64 ((at_ - 8 * F) / 32))).set hD 2 (.int .i64 ((at_ - 8 * F) % 32))
    exact ⟨this.geo, this.res, this.bel.drew⟩)
  rw [← hW4]
  clear hW4 hx3 HT3 g0 g1 g2 e0 e1 e2 r0 r1 r2 s0 s1 s2
  obtain ⟨g0, g1, g2, e0, e1, e2⟩ := blk3 hx4
  obtain ⟨r0, r1, r2, s0, s1, s2⟩ := blk3 HT4.out.res
  have hD1 : ¬ w.heap.size + 1 = D := by omega
  have hD2 : ¬ D = w.heap.size + 1 := by omega
  have hq0 : 0 ≤ (at_ - 8 * F) / 32 := by omega
  have hq1 : (at_ - 8 * F) / 32 ≤ 9000 := by omega
  generalize (at_ - 8 * F) / 32 = q at *
  generalize (at_ - 8 * F) % 32 = o at *
  clear hx4
  go_wp2
  refine bodyPost_ret (v := .tuple #[.agg #[.int .u8 5, .int .i64 (q + 1), .int .i64 o], .int .i64 0]) (by unfold results; go_simp) rfl ?_
  exact ⟨rfl, set3 (HT4.out.bel.setCell (p := ⟨D, 1, none⟩) (by show w.heap.size ≤ D; omega) _) (by omega) _ _ _⟩

set_option maxHeartbeats 4000000 in
theorem What_slot (P I B at_ : Int) (h : MayG P I B) (h0 : 0 ≤ at_) (h1 : at_ < 8 * linesOf P I B) (hk' : at_ / 8 < 2 + I + 17 * P) (hk : 2 + I ≤ at_ / 8) (w : World) :
    Calls Try.prog 7 #[gv P I B, .int .i64 at_] w (OutR w 4 ((at_ - 8 * (2 + I)) / 136) ((at_ - 8 * (2 + I)) % 136) 0) := by
  have HL := Lib.hid (fun W => Lines_may P I B h W)
  have hkd : kdOf P I (at_ / 8) = 4 := by unfold kdOf; rw [if_neg (by omega), if_pos hk]
  have hln : 0 ≤ linesOf P I B ∧ linesOf P I B ≤ 5000 := by obtain ⟨_, _, _, _, _, _⟩ := h; unfold linesOf; omega
  have HK := Lib.hid (fun W => kind_any P I B (at_ / 8) h (by unfold I64; omega) W)
  have HF := Lib.hid (fun W => slots_may P I B h W)
  rw [hkd] at HK
  have HT := Lib.hid (Two.new w P I B)
  unfold gv at HL HK HF ⊢
  obtain ⟨hn1, hn2⟩ := hln
  have hF : 0 ≤ 2 + I ∧ 2 + I ≤ 5000 := by obtain ⟨_, _, _, _, _, _⟩ := h; omega
  generalize 2 + I = F at *
  generalize linesOf P I B = L at *
  obtain ⟨hF1, hF2⟩ := hF
  have hO : 0 ≤ at_ - 8 * F := by omega
  clear h hkd
  go_enter Try.func7, Try.ntmps7
  go_wp2_with fail
  refine (HL.out _).mono ?_
  rintro e w1 ⟨rfl, hb⟩
  have HT1 := Lib.hid (HT.out.below hb)
  obtain ⟨g0, g1, g2, _, _, _⟩ := blk3 HT1.out.geo
  clear hb HT
  go_wp2_with fail
  refine (HK.out _).mono ?_
  rintro e w2 ⟨rfl, hb⟩
  have HT2 := Lib.hid (HT1.out.below hb)
  have hb2 : w.heap.size + 1 < w2.heap.size := HT2.out.lt
  have hb3 : w.heap.size < w2.heap.size := by omega
  clear hb HT1 g0 g1 g2
  obtain ⟨g0, g1, g2, _, _, _⟩ := blk3 HT2.out.geo
  obtain ⟨r0, r1, r2, e0, e1, e2⟩ := blk3 HT2.out.res
  go_wp2_with fail
  refine (HF.out _).mono ?_
  rintro e w3 ⟨rfl, hb⟩
  have hx3 := blk_below (heap_alloc_new w2 _) hb
  have HT3 := Lib.hid ((HT2.out.below ((Below.refl _ _).alloc (Nat.le_refl _) _)).below hb)
  have hD : w.heap.size + 1 < w2.heap.size := hb2
  clear hb HT2 g0 g1 g2 r0 r1 r2 e0 e1 e2 hb2 hb3
  generalize w2.heap.size = D at *
  obtain ⟨g0, g1, g2, e0, e1, e2⟩ := blk3 hx3
  obtain ⟨r0, r1, r2, s0, s1, s2⟩ := blk3 HT3.out.res
  go_wp2
  go_region
  obtain ⟨W4, hW4⟩ : ∃ W4, W4 = (((w3.setCell ⟨D, 2, none⟩ (.int .i64 (at_ - 8 * F))).setCell ⟨D, 1, none⟩ (.int .i64 ((at_ - 8 * F) / 136))).setCell ⟨D, 2, none⟩ (.int .i64 ((at_ - 8 * F) % 136))).drew := ⟨_, rfl⟩
  have hx4 : W4.heap[D]? = some (.cells #[.int .u8 4, .int .i64 ((at_ - 8 * F) / 136), .int .i64 ((at_ - 8 * F) % 136)] 25 (0, 0)) := by rw [hW4]; exact set_x hx3 (.int .i64 (at_ - 8 * F)) (.int .i64 ((at_ - 8 * F) / 136)) (.int .i64 ((at_ - 8 * F) % 136))
  have HT4 : Hid (Two w P I B 0 0 0 W4) := Lib.hid (by
    rw [hW4]
    have := ((HT3.out.set hD 2 (.int .i64 (at_ - 8 * F))).set hD 1 (.int .i64 ((at_ - 8 * F) / 136))).set hD 2 (.int .i64 ((at_ - 8 * F) % 136))
    exact ⟨this.geo, this.res, this.bel.drew⟩)
  rw [← hW4]
  clear hW4 hx3 HT3 g0 g1 g2 e0 e1 e2 r0 r1 r2 s0 s1 s2
  obtain ⟨g0, g1, g2, e0, e1, e2⟩ := blk3 hx4
  obtain ⟨r0, r1, r2, s0, s1, s2⟩ := blk3 HT4.out.res
  have hD1 : ¬ w.heap.size + 1 = D := by omega
  have hD2 : ¬ D = w.heap.size + 1 := by omega
  have hq0 : 0 ≤ (at_ - 8 * F) / 136 := by omega
  have hq1 : (at_ - 8 * F) / 136 ≤ 9000 := by omega
  generalize (at_ - 8 * F) / 136 = q at *
  generalize (at_ - 8 * F) % 136 = o at *
  clear hx4
  go_wp2
  refine bodyPost_ret (v := .tuple #[.agg #[.int .u8 4, .int .i64 q, .int .i64 o], .int .i64 0]) (by unfold results; go_simp) rfl ?_
  exact ⟨rfl, set3 (HT4.out.bel) (by omega) _ _ _⟩
end Go.Proofs.Ytpjhjpcajdbinaa
