/- geom.What: a word of the maps, of the superblock. -/
import Derived.Test.YtpjhjpcajdbinaaGeomWhat1
namespace Go.Proofs.Ytpjhjpcajdbinaa
open Go.RowKit
set_option linter.unusedVariables false

set_option maxHeartbeats 4000000 in
theorem What_maps (P I B at_ : Int) (h : MayG P I B) (h0 : 0 ≤ at_) (h1 : at_ < 8 * linesOf P I B) (hk1 : 8 ≤ at_) (hk2 : at_ < 16) (w : World) :
    Calls Try.prog 7 #[gv P I B, .int .i64 at_] w (OutR w 2 ((at_ - 8) / 8) (at_ % 8) 0) := by
  have HL := Lib.hid (fun W => Lines_may P I B h W)
  have hkd : kdOf P I (at_ / 8) = 2 := by have := h.1; have := h.2.2.1; unfold kdOf; rw [if_neg (by omega), if_neg (by omega), if_neg (by omega), if_pos (by omega)]
  have hln : 0 ≤ linesOf P I B ∧ linesOf P I B ≤ 5000 := by obtain ⟨_, _, _, _, _, _⟩ := h; unfold linesOf; omega
  have HK := Lib.hid (fun W => kind_any P I B (at_ / 8) h (by unfold I64; omega) W)
  rw [hkd] at HK
  have HT := Lib.hid (Two.new w P I B)
  unfold gv at HL HK ⊢
  obtain ⟨hn1, hn2⟩ := hln
  generalize linesOf P I B = L at *
  have hO : 0 ≤ at_ - 8 := by omega
  clear h hkd
  go_enter Try.func7, Try.ntmps7
  go_wp2_with fail
  refine (HL.out _).mono ?_
  rintro e w1 ⟨rfl, hb⟩
  have HT1 := Lib.hid (HT.out.below hb)
  obtain ⟨g0, g1, g2, _, _, _⟩ := blk3 HT1.out.geo
  clear hb HT
  go_wp2_with fail
  refine (HK.out _).mono ?_
  rintro e w2 ⟨rfl, hb⟩
  have HT2 := Lib.hid (HT1.out.below hb)
  have hD : w.heap.size + 1 < w2.heap.size := HT2.out.lt
  clear hb HT1 g0 g1 g2
  go_wp2
  obtain ⟨w3, hw3⟩ : ∃ w3, w3 = w2.alloc (.cells #[.int .u8 2, .int .i64 0, .int .i64 (at_ - 8)] 25) := ⟨_, rfl⟩
  have hx3 : w3.heap[w2.heap.size]? = some (.cells #[.int .u8 2, .int .i64 0, .int .i64 (at_ - 8)] 25 (0, 0)) := by rw [hw3]; exact heap_alloc_new w2 _
  have HT3 : Hid (Two w P I B 0 0 0 w3) := Lib.hid (by rw [hw3]; exact HT2.out.below ((Below.refl _ _).alloc (Nat.le_refl _) _))
  rw [← hw3]
  clear hw3 HT2
  generalize w2.heap.size = D at *
  obtain ⟨g0, g1, g2, e0, e1, e2⟩ := blk3 hx3
  obtain ⟨r0, r1, r2, s0, s1, s2⟩ := blk3 HT3.out.res
  go_region
  obtain ⟨W4, hW4⟩ : ∃ W4, W4 = ((w3.setCell ⟨D, 1, none⟩ (.int .i64 ((at_ - 8) / 8))).setCell ⟨D, 2, none⟩ (.int .i64 (at_ % 8))).drew := ⟨_, rfl⟩
  have hx4 : W4.heap[D]? = some (.cells #[.int .u8 2, .int .i64 ((at_ - 8) / 8), .int .i64 (at_ % 8)] 25 (0, 0)) := by rw [hW4]; exact set_x2 hx3 (.int .i64 ((at_ - 8) / 8)) (.int .i64 (at_ % 8))
  have HT4 : Hid (Two w P I B 0 0 0 W4) := Lib.hid (by
    rw [hW4]
    have := (HT3.out.set hD 1 (.int .i64 ((at_ - 8) / 8))).set hD 2 (.int .i64 (at_ % 8))
    exact ⟨this.geo, this.res, this.bel.drew⟩)
  rw [← hW4]
  clear hW4 hx3 HT3 g0 g1 g2 e0 e1 e2 r0 r1 r2 s0 s1 s2
  obtain ⟨g0, g1, g2, e0, e1, e2⟩ := blk3 hx4
  obtain ⟨r0, r1, r2, s0, s1, s2⟩ := blk3 HT4.out.res
  have hD1 : ¬ w.heap.size + 1 = D := by omega
  have hD2 : ¬ D = w.heap.size + 1 := by omega
  generalize (at_ - 8) / 8 = q at *
  generalize at_ % 8 = o at *
  clear hx4
  go_wp2
  refine bodyPost_ret (v := .tuple #[.agg #[.int .u8 2, .int .i64 q, .int .i64 o], .int .i64 0]) (by unfold results; go_simp) rfl ?_
  exact ⟨rfl, set3 HT4.out.bel (by omega) _ _ _⟩

set_option maxHeartbeats 4000000 in
theorem What_super (P I B at_ : Int) (h : MayG P I B) (h0 : 0 ≤ at_) (h1 : at_ < 8 * linesOf P I B) (hk2 : at_ < 8) (w : World) :
    Calls Try.prog 7 #[gv P I B, .int .i64 at_] w (OutR w 1 ((at_) / 8) ((at_) % 8) 0) := by
  have HL := Lib.hid (fun W => Lines_may P I B h W)
  have hkd : kdOf P I (at_ / 8) = 1 := by have := h.1; have := h.2.2.1; unfold kdOf; rw [if_neg (by omega), if_neg (by omega), if_neg (by omega), if_neg (by omega)]
  have hln : 0 ≤ linesOf P I B ∧ linesOf P I B ≤ 5000 := by obtain ⟨_, _, _, _, _, _⟩ := h; unfold linesOf; omega
  have HK := Lib.hid (fun W => kind_any P I B (at_ / 8) h (by unfold I64; omega) W)
  rw [hkd] at HK
  have HT := Lib.hid (Two.new w P I B)
  unfold gv at HL HK ⊢
  obtain ⟨hn1, hn2⟩ := hln
  generalize linesOf P I B = L at *
  have hO : 0 ≤ at_ := by omega
  clear h hkd
  go_enter Try.func7, Try.ntmps7
  go_wp2_with fail
  refine (HL.out _).mono ?_
  rintro e w1 ⟨rfl, hb⟩
  have HT1 := Lib.hid (HT.out.below hb)
  obtain ⟨g0, g1, g2, _, _, _⟩ := blk3 HT1.out.geo
  clear hb HT
  go_wp2_with fail
  refine (HK.out _).mono ?_
  rintro e w2 ⟨rfl, hb⟩
  have HT2 := Lib.hid (HT1.out.below hb)
  have hD : w.heap.size + 1 < w2.heap.size := HT2.out.lt
  clear hb HT1 g0 g1 g2
  go_wp2
  obtain ⟨w3, hw3⟩ : ∃ w3, w3 = w2.alloc (.cells #[.int .u8 1, .int .i64 0, .int .i64 (at_)] 25) := ⟨_, rfl⟩
  have hx3 : w3.heap[w2.heap.size]? = some (.cells #[.int .u8 1, .int .i64 0, .int .i64 (at_)] 25 (0, 0)) := by rw [hw3]; exact heap_alloc_new w2 _
  have HT3 : Hid (Two w P I B 0 0 0 w3) := Lib.hid (by rw [hw3]; exact HT2.out.below ((Below.refl _ _).alloc (Nat.le_refl _) _))
  rw [← hw3]
  clear hw3 HT2
  generalize w2.heap.size = D at *
  obtain ⟨g0, g1, g2, e0, e1, e2⟩ := blk3 hx3
  obtain ⟨r0, r1, r2, s0, s1, s2⟩ := blk3 HT3.out.res
  go_region
  obtain ⟨W4, hW4⟩ : ∃ W4, W4 = ((w3.setCell ⟨D, 1, none⟩ (.int .i64 ((at_) / 8))).setCell ⟨D, 2, none⟩ (.int .i64 ((at_) % 8))).drew := ⟨_, rfl⟩
  have hx4 : W4.heap[D]? = some (.cells #[.int .u8 1, .int .i64 ((at_) / 8), .int .i64 ((at_) % 8)] 25 (0, 0)) := by rw [hW4]; exact set_x2 hx3 (.int .i64 ((at_) / 8)) (.int .i64 ((at_) % 8))
  have HT4 : Hid (Two w P I B 0 0 0 W4) := Lib.hid (by
    rw [hW4]
    have := (HT3.out.set hD 1 (.int .i64 ((at_) / 8))).set hD 2 (.int .i64 ((at_) % 8))
    exact ⟨this.geo, this.res, this.bel.drew⟩)
  rw [← hW4]
  clear hW4 hx3 HT3 g0 g1 g2 e0 e1 e2 r0 r1 r2 s0 s1 s2
  obtain ⟨g0, g1, g2, e0, e1, e2⟩ := blk3 hx4
  obtain ⟨r0, r1, r2, s0, s1, s2⟩ := blk3 HT4.out.res
  have hD1 : ¬ w.heap.size + 1 = D := by omega
  have hD2 : ¬ D = w.heap.size + 1 := by omega
  generalize (at_) / 8 = q at *
  generalize (at_) % 8 = o at *
  clear hx4
  go_wp2
  refine bodyPost_ret (v := .tuple #[.agg #[.int .u8 1, .int .i64 q, .int .i64 o], .int .i64 0]) (by unfold results; go_simp) rfl ?_
  exact ⟨rfl, set3 HT4.out.bel (by omega) _ _ _⟩

end Go.Proofs.Ytpjhjpcajdbinaa
