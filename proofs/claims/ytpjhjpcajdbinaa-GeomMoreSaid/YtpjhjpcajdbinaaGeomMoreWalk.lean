/- The walk of the law GeomMore. -/
import Derived.Test.YtpjhjpcajdbinaaGeomAlive
import Derived.Test.YtpjhjpcajdbinaaGeomRefB
import Derived.RegionTactic
import Derived.BigRegion
namespace Go.Proofs.Ytpjhjpcajdbinaa
open Go.RowKit
set_option linter.unusedVariables false

theorem block1 {P I B : Int} (h : MayG P I B) : blockOut P I B 1 = (8 * (2 + I + 17 * P), 0) := by
  obtain ⟨h1, h2, h3, h4, h5, h6⟩ := h
  unfold blockOut placeOut
  rw [if_pos ⟨h1, h2, h3, h4, h5, h6⟩, most2_eq, if_neg (by omega)]
  refine Prod.ext ?_ rfl
  simp only
  omega
theorem inodeI {P I B i : Int} (h : MayG P I B) (h0 : 1 ≤ i) (hi : i ≤ I) : inodeOut P I B i = (8 * (1 + i), 0) := by
  unfold inodeOut placeOut
  rw [if_pos h, most2_eq, if_neg (by omega)]
  refine Prod.ext ?_ rfl
  simp only
  omega

set_option maxHeartbeats 4000000 in
theorem more_yes (P I B P' I' B' by_ : Int) (h : MayG P I B) (hP' : P ≤ P' ∧ P' ≤ P + 1) (hI' : I ≤ I' ∧ I' ≤ I + 1) (hB' : B ≤ B' ∧ B' ≤ B + 1) (hby : 0 ≤ by_ ∧ by_ ≤ 17) (hl : linesOf P' I' B' = linesOf P I B + by_)
    (hmv : 2 + I' + 17 * P' = 2 + I + 17 * P + (if B' = B then by_ else 0)) (w : World) :
    Calls Try.prog 12 #[gv P I B, gv P' I' B', .int .i64 (linesOf P I B), .int .i64 by_] w fun e w' => e = .returned (.bool true) ∧ Below w.heap.size w w' := by
  have hI64 : I64 I := by obtain ⟨_, _, _, _, _, _⟩ := h; unfold I64; omega
  have hI64' : I64 I' := by obtain ⟨_, _, _, _, _, _⟩ := h; unfold I64; omega
  have hbx : Below w.heap.size w ((w.alloc (.cells #[.int .i64 P, .int .i64 I, .int .i64 B] 23)).alloc (.cells #[.int .i64 P', .int .i64 I', .int .i64 B'] 23)) := below_alloc ((Below.refl _ _).alloc (Nat.le_refl _) _) (Nat.le_refl _) _
  have hgx : ((w.alloc (.cells #[.int .i64 P, .int .i64 I, .int .i64 B] 23)).alloc (.cells #[.int .i64 P', .int .i64 I', .int .i64 B'] 23)).heap[w.heap.size]? = some (.cells #[.int .i64 P, .int .i64 I, .int .i64 B] 23 (0, 0)) := blk_below (heap_alloc_new w _) ((Below.refl _ _).alloc (Nat.le_refl _) _)
  have hgy : ((w.alloc (.cells #[.int .i64 P, .int .i64 I, .int .i64 B] 23)).alloc (.cells #[.int .i64 P', .int .i64 I', .int .i64 B'] 23)).heap[w.heap.size + 1]? = some (.cells #[.int .i64 P', .int .i64 I', .int .i64 B'] 23 (0, 0)) := by
    have := heap_alloc_new (w.alloc (.cells #[.int .i64 P, .int .i64 I, .int .i64 B] 23)) (.cells #[.int .i64 P', .int .i64 I', .int .i64 B'] 23)
    rwa [World.size_alloc] at this
  have HBx := Lib.hid hbx
  have HGx := Lib.hid hgx
  have HGy := Lib.hid hgy
  clear hbx hgx hgy
  by_cases hm : MayG P' I' B'
  · have HLn := Lib.hid (fun W => Lines_may P' I' B' hm W)
    have hBg := fun W => Block_any P I B 1 hI64 (by unfold I64; omega) W
    rw [block1 h] at hBg
    have hBx := fun W => Block_any P' I' B' 1 hI64' (by unfold I64; omega) W
    rw [block1 hm] at hBx
    have hIx := fun W => Inode_any P' I' B' I hI64 W
    rw [inodeI hm (by have := h.2.2.1; omega) hI'.1] at hIx
    have hIg := fun W => Inode_any P I B I hI64 W
    rw [inodeI h (by have := h.2.2.1; omega) (Int.le_refl _)] at hIg
    have hL : 0 ≤ linesOf P I B ∧ linesOf P I B ≤ 5000 := by obtain ⟨_, _, _, _, _, _⟩ := h; unfold linesOf; omega
    have hF : 0 ≤ 2 + I + 17 * P ∧ 2 + I + 17 * P ≤ 5000 := by obtain ⟨_, _, _, _, _, _⟩ := h; omega
    rw [hl] at HLn
    rw [hmv] at hBx
    have HBg := Lib.hid hBg
    have HBk := Lib.hid hBx
    have HIx := Lib.hid hIx
    have HIg := Lib.hid hIg
    obtain ⟨L1, L2⟩ := hL
    obtain ⟨F1, F2⟩ := hF
    obtain ⟨b1, b2⟩ := hby
    clear hBg hBx hIx hIg hmv hl hm h hP' hI'
    dsimp only at HBg HBk HIx HIg
    generalize 2 + I + 17 * P = F at *
    generalize linesOf P I B = L at *
    unfold gv at HLn HBg HBk HIx HIg ⊢
    have q1 : ((L + by_) == (L + by_)) = true := by simp
    have q2 : ((8 * (1 + I)) == (8 * (1 + I))) = true := by simp
    by_cases hBB : B' = B
    · rw [if_pos hBB] at HBk
      have hn : (B' != B) = false := by simp [hBB]
      have q3 : ((8 * (F + by_)) == (8 * F + 8 * by_)) = true := by simp; omega
      clear hBB hB'
      go_enter Try.func12, Try.ntmps12
      go_wp2_with fail
      refine (HLn.out _).mono ?_
      rintro e w1 ⟨rfl, hb⟩
      have HG1 := Lib.hid (blk_below HGx.out hb)
      have HH1 := Lib.hid (blk_below HGy.out hb)
      have HB1 := Lib.hid (below_on HBx.out (Nat.le_refl _) hb)
      clear hb HGx HBx HGy
      obtain ⟨g0, g1, g2, _, _, _⟩ := blk3 HG1.out
      obtain ⟨k0, k1, k2, _, _, _⟩ := blk3 HH1.out
      go_wp2_with fail
      refine (HBg.out _).mono ?_
      rintro e w2 ⟨rfl, hb⟩
      have HG2 := Lib.hid (blk_below HG1.out hb)
      have HH2 := Lib.hid (blk_below HH1.out hb)
      have HB2 := Lib.hid (below_on HB1.out (Nat.le_refl _) hb)
      clear hb HG1 HB1 HH1 g0 g1 g2 k0 k1 k2
      obtain ⟨g0, g1, g2, _, _, _⟩ := blk3 HG2.out
      obtain ⟨k0, k1, k2, _, _, _⟩ := blk3 HH2.out
      go_wp2_with fail
      refine (HBk.out _).mono ?_
      rintro e w3 ⟨rfl, hb⟩
      have HG3 := Lib.hid (blk_below HG2.out hb)
      have HH3 := Lib.hid (blk_below HH2.out hb)
      have HB3 := Lib.hid (below_on HB2.out (Nat.le_refl _) hb)
      clear hb HG2 HB2 HH2 g0 g1 g2 k0 k1 k2
      obtain ⟨g0, g1, g2, _, _, _⟩ := blk3 HG3.out
      obtain ⟨k0, k1, k2, _, _, _⟩ := blk3 HH3.out
      go_wp2_with fail
      refine (HIx.out _).mono ?_
      rintro e w4 ⟨rfl, hb⟩
      have HG4 := Lib.hid (blk_below HG3.out hb)
      have HH4 := Lib.hid (blk_below HH3.out hb)
      have HB4 := Lib.hid (below_on HB3.out (Nat.le_refl _) hb)
      clear hb HG3 HB3 HH3 g0 g1 g2 k0 k1 k2
      obtain ⟨g0, g1, g2, _, _, _⟩ := blk3 HG4.out
      obtain ⟨k0, k1, k2, _, _, _⟩ := blk3 HH4.out
      go_wp2_with fail
      refine (HIg.out _).mono ?_
      rintro e w5 ⟨rfl, hb⟩
      have HG5 := Lib.hid (blk_below HG4.out hb)
      have HH5 := Lib.hid (blk_below HH4.out hb)
      have HB5 := Lib.hid (below_on HB4.out (Nat.le_refl _) hb)
      clear hb HG4 HB4 HH4 g0 g1 g2 k0 k1 k2
      obtain ⟨g0, g1, g2, _, _, _⟩ := blk3 HG5.out
      obtain ⟨k0, k1, k2, _, _, _⟩ := blk3 HH5.out
      go_wp2
      go_ret
      exact ⟨rfl, HB5.out⟩
    · rw [if_neg hBB, Int.add_zero] at HBk
      have hn : (B' != B) = true := by simpa using hBB
      have q3 : ((8 * F) == (8 * F)) = true := by simp
      clear hBB hB'
      go_enter Try.func12, Try.ntmps12
      go_wp2_with fail
      refine (HLn.out _).mono ?_
      rintro e w1 ⟨rfl, hb⟩
      have HG1 := Lib.hid (blk_below HGx.out hb)
      have HH1 := Lib.hid (blk_below HGy.out hb)
      have HB1 := Lib.hid (below_on HBx.out (Nat.le_refl _) hb)
      clear hb HGx HBx HGy
      obtain ⟨g0, g1, g2, _, _, _⟩ := blk3 HG1.out
      obtain ⟨k0, k1, k2, _, _, _⟩ := blk3 HH1.out
      go_wp2_with fail
      refine (HBg.out _).mono ?_
      rintro e w2 ⟨rfl, hb⟩
      have HG2 := Lib.hid (blk_below HG1.out hb)
      have HH2 := Lib.hid (blk_below HH1.out hb)
      have HB2 := Lib.hid (below_on HB1.out (Nat.le_refl _) hb)
      clear hb HG1 HB1 HH1 g0 g1 g2 k0 k1 k2
      obtain ⟨g0, g1, g2, _, _, _⟩ := blk3 HG2.out
      obtain ⟨k0, k1, k2, _, _, _⟩ := blk3 HH2.out
      go_wp2_with fail
      refine (HBk.out _).mono ?_
      rintro e w3 ⟨rfl, hb⟩
      have HG3 := Lib.hid (blk_below HG2.out hb)
      have HH3 := Lib.hid (blk_below HH2.out hb)
      have HB3 := Lib.hid (below_on HB2.out (Nat.le_refl _) hb)
      clear hb HG2 HB2 HH2 g0 g1 g2 k0 k1 k2
      obtain ⟨g0, g1, g2, _, _, _⟩ := blk3 HG3.out
      obtain ⟨k0, k1, k2, _, _, _⟩ := blk3 HH3.out
      go_wp2_with fail
      refine (HIx.out _).mono ?_
      rintro e w4 ⟨rfl, hb⟩
      have HG4 := Lib.hid (blk_below HG3.out hb)
      have HH4 := Lib.hid (blk_below HH3.out hb)
      have HB4 := Lib.hid (below_on HB3.out (Nat.le_refl _) hb)
      clear hb HG3 HB3 HH3 g0 g1 g2 k0 k1 k2
      obtain ⟨g0, g1, g2, _, _, _⟩ := blk3 HG4.out
      obtain ⟨k0, k1, k2, _, _, _⟩ := blk3 HH4.out
      go_wp2_with fail
      refine (HIg.out _).mono ?_
      rintro e w5 ⟨rfl, hb⟩
      have HG5 := Lib.hid (blk_below HG4.out hb)
      have HH5 := Lib.hid (blk_below HH4.out hb)
      have HB5 := Lib.hid (below_on HB4.out (Nat.le_refl _) hb)
      clear hb HG4 HB4 HH4 g0 g1 g2 k0 k1 k2
      obtain ⟨g0, g1, g2, _, _, _⟩ := blk3 HG5.out
      obtain ⟨k0, k1, k2, _, _, _⟩ := blk3 HH5.out
      go_wp2
      go_ret
      exact ⟨rfl, HB5.out⟩
  · have HLn := Lib.hid (fun W => Lines_arg P' I' B' hm W)
    have HM := Lib.hid (fun W => refMay_no P' I' B' hm W)
    generalize linesOf P I B = L at *
    unfold gv at HLn HM ⊢
    clear hm h hP' hI' hB' hby hl hmv hI64 hI64'
    go_enter Try.func12, Try.ntmps12
    go_wp2_with fail
    refine (HLn.out _).mono ?_
    rintro e w1 ⟨rfl, hb⟩
    have HH1 := Lib.hid (blk_below HGy.out hb)
    have HB1 := Lib.hid (below_on HBx.out (Nat.le_refl _) hb)
    clear hb HGx HBx HGy
    obtain ⟨k0, k1, k2, _, _, _⟩ := blk3 HH1.out
    go_wp2_with fail
    refine (HM.out _).mono ?_
    rintro e w2 ⟨rfl, hb⟩
    have hb2 := below_on HB1.out (Nat.le_refl _) hb
    clear hb
    go_wp2
    go_ret
    exact ⟨rfl, hb2⟩

/-- three copies, each with one number turned -/
theorem three_set {W : World} {a b c z : Nat} {p i q : Value} {t : TypeId} {o : Obj} (hab : a ≠ b) (hac : a ≠ c) (hbc : b ≠ c) (hza : z ≠ a) (hzb : z ≠ b) (hzc : z ≠ c)
    (ha : W.heap[a]? = some (.cells #[p, i, q] t (0, 0))) (hb : W.heap[b]? = some (.cells #[p, i, q] t (0, 0))) (hc : W.heap[c]? = some (.cells #[p, i, q] t (0, 0))) (hz : W.heap[z]? = some o) (i' p' q' : Value) :
    (((W.setCell ⟨a, 1, none⟩ i').setCell ⟨b, 0, none⟩ p').setCell ⟨c, 2, none⟩ q').heap[b]? = some (.cells #[p', i, q] t (0, 0)) ∧
    (((W.setCell ⟨a, 1, none⟩ i').setCell ⟨b, 0, none⟩ p').setCell ⟨c, 2, none⟩ q').heap[c]? = some (.cells #[p, i, q'] t (0, 0)) ∧
    (((W.setCell ⟨a, 1, none⟩ i').setCell ⟨b, 0, none⟩ p').setCell ⟨c, 2, none⟩ q').heap[z]? = some o := by
  refine ⟨?_, ?_, ?_⟩
  · rw [heap_setCell_other _ ⟨c, 2, none⟩ b q' hbc]
    have h1 : (W.setCell ⟨a, 1, none⟩ i').heap[b]? = some (.cells #[p, i, q] t (0, 0)) := by rw [heap_setCell_other _ ⟨a, 1, none⟩ b i' (Ne.symm hab)]; exact hb
    exact heap_setCell_same _ b 0 _ t p' h1
  · have h1 : ((W.setCell ⟨a, 1, none⟩ i').setCell ⟨b, 0, none⟩ p').heap[c]? = some (.cells #[p, i, q] t (0, 0)) := by
      rw [heap_setCell_other _ ⟨b, 0, none⟩ c p' (Ne.symm hbc), heap_setCell_other _ ⟨a, 1, none⟩ c i' (Ne.symm hac)]; exact hc
    exact heap_setCell_same _ c 2 _ t q' h1
  · rw [heap_setCell_other _ ⟨c, 2, none⟩ z q' hzc, heap_setCell_other _ ⟨b, 0, none⟩ z p' hzb, heap_setCell_other _ ⟨a, 1, none⟩ z i' hza]; exact hz
theorem three_new (W : World) (o : Obj) : ((((W.alloc o).alloc o).alloc o).drew).heap[W.heap.size]? = some o ∧ ((((W.alloc o).alloc o).alloc o).drew).heap[W.heap.size + 1]? = some o ∧ ((((W.alloc o).alloc o).alloc o).drew).heap[W.heap.size + 1 + 1]? = some o := by
  have b1 : ∀ V : World, Below V.heap.size V (V.alloc o) := fun V => (Below.refl _ _).alloc (Nat.le_refl _) o
  have k1 : (((W.alloc o).alloc o).alloc o).heap[W.heap.size]? = some o := blk_below (blk_below (heap_alloc_new W o) (b1 _)) (b1 _)
  have k2 : (((W.alloc o).alloc o).alloc o).heap[W.heap.size + 1]? = some o := by
    have := heap_alloc_new (W.alloc o) o
    rw [World.size_alloc] at this
    exact blk_below this (b1 _)
  have k3 : (((W.alloc o).alloc o).alloc o).heap[W.heap.size + 1 + 1]? = some o := by
    have := heap_alloc_new ((W.alloc o).alloc o) o
    rw [World.size_alloc, World.size_alloc] at this
    exact this
  exact ⟨k1, k2, k3⟩

set_option maxHeartbeats 8000000 in
theorem geomMore_walk (w : World) (P I B : Int) (hP : I64 P) (hI : I64 I) (hB : I64 B) :
    Calls Try.prog 4 #[gv P I B] w fun e w' => e = .returned (.bool true) ∧ Below w.heap.size w w' := by
  have hbx : Below w.heap.size w (w.alloc (.cells #[.int .i64 P, .int .i64 I, .int .i64 B] 23)) := (Below.refl _ _).alloc (Nat.le_refl _) _
  have hgx := heap_alloc_new w (.cells #[.int .i64 P, .int .i64 I, .int .i64 B] 23)
  have HBx := Lib.hid hbx
  have HGx := Lib.hid hgx
  clear hbx hgx
  have HA := Lib.hid alive_any
  by_cases hm : MayG P I B
  · have HLn := Lib.hid (fun W => Lines_may P I B hm W)
    have HM1 := Lib.hid (fun W => more_yes P I B P (I + 1) B 1 hm (by omega) (by omega) (by omega) (by omega) (by unfold linesOf; omega) (by rw [if_pos rfl]; omega) W)
    have HM2 := Lib.hid (fun W => more_yes P I B (P + 1) I B 17 hm (by omega) (by omega) (by omega) (by omega) (by unfold linesOf; omega) (by rw [if_pos rfl]; omega) W)
    have HM3 := Lib.hid (fun W => more_yes P I B P I (B + 1) 4 hm (by omega) (by omega) (by omega) (by omega) (by unfold linesOf; omega) (by rw [if_neg (by omega)]; omega) W)
    obtain ⟨h1, h2, h3, h4, h5, h6⟩ := hm
    generalize linesOf P I B = L at *
    unfold gv at HLn HM1 HM2 HM3 ⊢
    go_enter Try.func4, Try.ntmps4
    go_wp2_with fail
    refine (HLn.out _).mono ?_
    rintro e w1 ⟨rfl, hb⟩
    have hg1 := blk_below HGx.out hb
    have HG1 := Lib.hid hg1
    have HB1 := Lib.hid (below_on HBx.out (Nat.le_refl _) hb)
    clear hb HGx HBx
    have hlt : w.heap.size < w1.heap.size := (Array.getElem?_eq_some_iff.1 hg1).1
    clear hg1
    obtain ⟨g0, g1, g2, _, _, _⟩ := blk3 HG1.out
    have hlt1 : w.heap.size < w1.heap.size + 1 := by omega
    have hlt2 : w.heap.size < w1.heap.size + 2 := by omega
    have hlt3 : w.heap.size < w1.heap.size + 1 + 1 := by omega
    go_wp2
    go_region
    · obtain ⟨x0, x1, x2⟩ := three_new w1 (.cells #[.int .i64 P, .int .i64 I, .int .i64 B] 23)
      obtain ⟨W4, hW4⟩ : ∃ W4, W4 = (((w1.alloc (.cells #[.int .i64 P, .int .i64 I, .int .i64 B] 23)).alloc (.cells #[.int .i64 P, .int .i64 I, .int .i64 B] 23)).alloc (.cells #[.int .i64 P, .int .i64 I, .int .i64 B] 23)).drew := ⟨_, rfl⟩
      have b1 : Below w1.heap.size w1 W4 := by rw [hW4]; exact (below_alloc (below_alloc ((Below.refl _ _).alloc (Nat.le_refl _) _) (Nat.le_refl _) _) (Nat.le_refl _) _).drew
      have HG4 := Lib.hid (blk_below HG1.out b1)
      have HB4 := Lib.hid (below_on HB1.out (Nat.le_refl _) b1)
      rw [← hW4] at x0 x1 x2 ⊢
      clear hW4 b1 HG1 HB1 g0 g1 g2 hlt1 hlt2 hlt3
      generalize w1.heap.size = n at *
      have X0 := Lib.hid x0
      have X1 := Lib.hid x1
      have X2 := Lib.hid x2
      obtain ⟨a0, a1, a2, c0, c1, c2⟩ := blk3 x0
      obtain ⟨k0, k1, k2, r0, r1, r2⟩ := blk3 x1
      obtain ⟨m0, m1, m2, s0, s1, s2⟩ := blk3 x2
      obtain ⟨g0, g1, g2, _, _, _⟩ := blk3 HG4.out
      have u1 : ¬ n = n + 1 := by omega
      have u2 : ¬ n = n + 1 + 1 := by omega
      have u3 : ¬ n + 1 = n + 1 + 1 := by omega
      have u4 : ¬ n + 1 = n := by omega
      have u5 : ¬ n + 1 + 1 = n := by omega
      have u6 : ¬ n + 1 + 1 = n + 1 := by omega
      have v1 : ¬ w.heap.size = n := by omega
      have v2 : ¬ w.heap.size = n + 1 := by omega
      have v3 : ¬ w.heap.size = n + 1 + 1 := by omega
      have Hlt := Lib.hid hlt
      clear x0 x1 x2
      go_wp2_with fail
      refine (HM1.out _).mono ?_
      rintro e w6 ⟨rfl, hb⟩
      obtain ⟨y1, y2, y3⟩ := three_set (W := W4) (a := n) (b := n + 1) (c := n + 1 + 1) (z := w.heap.size) (by omega) (by omega) (by omega) (by omega) (by omega) (by omega) X0.out X1.out X2.out HG4.out (.int .i64 (I + 1)) (.int .i64 (P + 1)) (.int .i64 (B + 1))
      have Y1 := Lib.hid (blk_below y1 hb)
      have Y2 := Lib.hid (blk_below y2 hb)
      have Y3 := Lib.hid (blk_below y3 hb)
      have HB6 := Lib.hid (below_on (((HB4.out.setCell (p := ⟨n, 1, none⟩) (by show w.heap.size ≤ n; omega) _).setCell (p := ⟨n + 1, 0, none⟩) (by show w.heap.size ≤ n + 1; omega) _).setCell (p := ⟨n + 1 + 1, 2, none⟩) (by show w.heap.size ≤ n + 1 + 1; omega) _) (Nat.le_refl _) hb)
      clear hb y1 y2 y3 a0 a1 a2 c0 c1 c2 k0 k1 k2 r0 r1 r2 m0 m1 m2 s0 s1 s2 g0 g1 g2 X0 X1 X2 HB4 HG4
      obtain ⟨a0, a1, a2, _, _, _⟩ := blk3 Y1.out
      obtain ⟨g0, g1, g2, _, _, _⟩ := blk3 Y3.out
      go_wp2_with fail
      refine (HM2.out _).mono ?_
      rintro e w7 ⟨rfl, hb⟩
      have HB7 := Lib.hid (below_on HB6.out (Nat.le_refl _) hb)
      have Z2 := Lib.hid (blk_below Y2.out hb)
      have Z3 := Lib.hid (blk_below Y3.out hb)
      clear hb a0 a1 a2 g0 g1 g2 HB6 Y1 Y2 Y3
      obtain ⟨a0, a1, a2, _, _, _⟩ := blk3 Z2.out
      obtain ⟨g0, g1, g2, _, _, _⟩ := blk3 Z3.out
      go_wp2_with fail
      refine (HM3.out _).mono ?_
      rintro e w8 ⟨rfl, hb⟩
      have HB8 := Lib.hid (below_on HB7.out (Nat.le_refl _) hb)
      clear hb a0 a1 a2 g0 g1 g2 HB7 Z2 Z3
      go_wp2_with fail
      refine (HA.out _).mono ?_
      rintro e w9 ⟨rfl, hb⟩
      have hb9 := below_on HB8.out (Nat.le_refl _) hb
      clear hb HB8
      go_wp2
      go_ret
      exact ⟨rfl, hb9⟩
    · obtain ⟨x0, x1, x2⟩ := three_new w1 (.cells #[.int .i64 P, .int .i64 I, .int .i64 B] 23)
      obtain ⟨W4, hW4⟩ : ∃ W4, W4 = (((w1.alloc (.cells #[.int .i64 P, .int .i64 I, .int .i64 B] 23)).alloc (.cells #[.int .i64 P, .int .i64 I, .int .i64 B] 23)).alloc (.cells #[.int .i64 P, .int .i64 I, .int .i64 B] 23)).drew := ⟨_, rfl⟩
      have b1 : Below w1.heap.size w1 W4 := by rw [hW4]; exact (below_alloc (below_alloc ((Below.refl _ _).alloc (Nat.le_refl _) _) (Nat.le_refl _) _) (Nat.le_refl _) _).drew
      have HG4 := Lib.hid (blk_below HG1.out b1)
      have HB4 := Lib.hid (below_on HB1.out (Nat.le_refl _) b1)
      rw [← hW4] at x0 x1 x2 ⊢
      clear hW4 b1 HG1 HB1 g0 g1 g2 hlt1 hlt2 hlt3
      generalize w1.heap.size = n at *
      have X0 := Lib.hid x0
      have X1 := Lib.hid x1
      have X2 := Lib.hid x2
      obtain ⟨a0, a1, a2, c0, c1, c2⟩ := blk3 x0
      obtain ⟨k0, k1, k2, r0, r1, r2⟩ := blk3 x1
      obtain ⟨m0, m1, m2, s0, s1, s2⟩ := blk3 x2
      obtain ⟨g0, g1, g2, _, _, _⟩ := blk3 HG4.out
      have u1 : ¬ n = n + 1 := by omega
      have u2 : ¬ n = n + 1 + 1 := by omega
      have u3 : ¬ n + 1 = n + 1 + 1 := by omega
      have u4 : ¬ n + 1 = n := by omega
      have u5 : ¬ n + 1 + 1 = n := by omega
      have u6 : ¬ n + 1 + 1 = n + 1 := by omega
      have v1 : ¬ w.heap.size = n := by omega
      have v2 : ¬ w.heap.size = n + 1 := by omega
      have v3 : ¬ w.heap.size = n + 1 + 1 := by omega
      have Hlt := Lib.hid hlt
      clear x0 x1 x2
      go_wp2_with fail
      refine (HM1.out _).mono ?_
      rintro e w6 ⟨rfl, hb⟩
      obtain ⟨y1, y2, y3⟩ := three_set (W := W4) (a := n) (b := n + 1 + 1) (c := n + 1) (z := w.heap.size) (by omega) (by omega) (by omega) (by omega) (by omega) (by omega) X0.out X2.out X1.out HG4.out (.int .i64 (I + 1)) (.int .i64 (P + 1)) (.int .i64 (B + 1))
      have Y1 := Lib.hid (blk_below y1 hb)
      have Y2 := Lib.hid (blk_below y2 hb)
      have Y3 := Lib.hid (blk_below y3 hb)
      have HB6 := Lib.hid (below_on (((HB4.out.setCell (p := ⟨n, 1, none⟩) (by show w.heap.size ≤ n; omega) _).setCell (p := ⟨n + 1 + 1, 0, none⟩) (by show w.heap.size ≤ n + 1 + 1; omega) _).setCell (p := ⟨n + 1, 2, none⟩) (by show w.heap.size ≤ n + 1; omega) _) (Nat.le_refl _) hb)
      clear hb y1 y2 y3 a0 a1 a2 c0 c1 c2 k0 k1 k2 r0 r1 r2 m0 m1 m2 s0 s1 s2 g0 g1 g2 X0 X1 X2 HB4 HG4
      obtain ⟨a0, a1, a2, _, _, _⟩ := blk3 Y1.out
      obtain ⟨g0, g1, g2, _, _, _⟩ := blk3 Y3.out
      go_wp2_with fail
      refine (HM2.out _).mono ?_
      rintro e w7 ⟨rfl, hb⟩
      have HB7 := Lib.hid (below_on HB6.out (Nat.le_refl _) hb)
      have Z2 := Lib.hid (blk_below Y2.out hb)
      have Z3 := Lib.hid (blk_below Y3.out hb)
      clear hb a0 a1 a2 g0 g1 g2 HB6 Y1 Y2 Y3
      obtain ⟨a0, a1, a2, _, _, _⟩ := blk3 Z2.out
      obtain ⟨g0, g1, g2, _, _, _⟩ := blk3 Z3.out
      go_wp2_with fail
      refine (HM3.out _).mono ?_
      rintro e w8 ⟨rfl, hb⟩
      have HB8 := Lib.hid (below_on HB7.out (Nat.le_refl _) hb)
      clear hb a0 a1 a2 g0 g1 g2 HB7 Z2 Z3
      go_wp2_with fail
      refine (HA.out _).mono ?_
      rintro e w9 ⟨rfl, hb⟩
      have hb9 := below_on HB8.out (Nat.le_refl _) hb
      clear hb HB8
      go_wp2
      go_ret
      exact ⟨rfl, hb9⟩
    · obtain ⟨x0, x1, x2⟩ := three_new w1 (.cells #[.int .i64 P, .int .i64 I, .int .i64 B] 23)
      obtain ⟨W4, hW4⟩ : ∃ W4, W4 = (((w1.alloc (.cells #[.int .i64 P, .int .i64 I, .int .i64 B] 23)).alloc (.cells #[.int .i64 P, .int .i64 I, .int .i64 B] 23)).alloc (.cells #[.int .i64 P, .int .i64 I, .int .i64 B] 23)).drew := ⟨_, rfl⟩
      have b1 : Below w1.heap.size w1 W4 := by rw [hW4]; exact (below_alloc (below_alloc ((Below.refl _ _).alloc (Nat.le_refl _) _) (Nat.le_refl _) _) (Nat.le_refl _) _).drew
      have HG4 := Lib.hid (blk_below HG1.out b1)
      have HB4 := Lib.hid (below_on HB1.out (Nat.le_refl _) b1)
      rw [← hW4] at x0 x1 x2 ⊢
      clear hW4 b1 HG1 HB1 g0 g1 g2 hlt1 hlt2 hlt3
      generalize w1.heap.size = n at *
      have X0 := Lib.hid x0
      have X1 := Lib.hid x1
      have X2 := Lib.hid x2
      obtain ⟨a0, a1, a2, c0, c1, c2⟩ := blk3 x0
      obtain ⟨k0, k1, k2, r0, r1, r2⟩ := blk3 x1
      obtain ⟨m0, m1, m2, s0, s1, s2⟩ := blk3 x2
      obtain ⟨g0, g1, g2, _, _, _⟩ := blk3 HG4.out
      have u1 : ¬ n = n + 1 := by omega
      have u2 : ¬ n = n + 1 + 1 := by omega
      have u3 : ¬ n + 1 = n + 1 + 1 := by omega
      have u4 : ¬ n + 1 = n := by omega
      have u5 : ¬ n + 1 + 1 = n := by omega
      have u6 : ¬ n + 1 + 1 = n + 1 := by omega
      have v1 : ¬ w.heap.size = n := by omega
      have v2 : ¬ w.heap.size = n + 1 := by omega
      have v3 : ¬ w.heap.size = n + 1 + 1 := by omega
      have Hlt := Lib.hid hlt
      clear x0 x1 x2
      go_wp2_with fail
      refine (HM1.out _).mono ?_
      rintro e w6 ⟨rfl, hb⟩
      obtain ⟨y1, y2, y3⟩ := three_set (W := W4) (a := n + 1) (b := n) (c := n + 1 + 1) (z := w.heap.size) (by omega) (by omega) (by omega) (by omega) (by omega) (by omega) X1.out X0.out X2.out HG4.out (.int .i64 (I + 1)) (.int .i64 (P + 1)) (.int .i64 (B + 1))
      have Y1 := Lib.hid (blk_below y1 hb)
      have Y2 := Lib.hid (blk_below y2 hb)
      have Y3 := Lib.hid (blk_below y3 hb)
      have HB6 := Lib.hid (below_on (((HB4.out.setCell (p := ⟨n + 1, 1, none⟩) (by show w.heap.size ≤ n + 1; omega) _).setCell (p := ⟨n, 0, none⟩) (by show w.heap.size ≤ n; omega) _).setCell (p := ⟨n + 1 + 1, 2, none⟩) (by show w.heap.size ≤ n + 1 + 1; omega) _) (Nat.le_refl _) hb)
      clear hb y1 y2 y3 a0 a1 a2 c0 c1 c2 k0 k1 k2 r0 r1 r2 m0 m1 m2 s0 s1 s2 g0 g1 g2 X0 X1 X2 HB4 HG4
      obtain ⟨a0, a1, a2, _, _, _⟩ := blk3 Y1.out
      obtain ⟨g0, g1, g2, _, _, _⟩ := blk3 Y3.out
      go_wp2_with fail
      refine (HM2.out _).mono ?_
      rintro e w7 ⟨rfl, hb⟩
      have HB7 := Lib.hid (below_on HB6.out (Nat.le_refl _) hb)
      have Z2 := Lib.hid (blk_below Y2.out hb)
      have Z3 := Lib.hid (blk_below Y3.out hb)
      clear hb a0 a1 a2 g0 g1 g2 HB6 Y1 Y2 Y3
      obtain ⟨a0, a1, a2, _, _, _⟩ := blk3 Z2.out
      obtain ⟨g0, g1, g2, _, _, _⟩ := blk3 Z3.out
      go_wp2_with fail
      refine (HM3.out _).mono ?_
      rintro e w8 ⟨rfl, hb⟩
      have HB8 := Lib.hid (below_on HB7.out (Nat.le_refl _) hb)
      clear hb a0 a1 a2 g0 g1 g2 HB7 Z2 Z3
      go_wp2_with fail
      refine (HA.out _).mono ?_
      rintro e w9 ⟨rfl, hb⟩
      have hb9 := below_on HB8.out (Nat.le_refl _) hb
      clear hb HB8
      go_wp2
      go_ret
      exact ⟨rfl, hb9⟩
    · obtain ⟨x0, x1, x2⟩ := three_new w1 (.cells #[.int .i64 P, .int .i64 I, .int .i64 B] 23)
      obtain ⟨W4, hW4⟩ : ∃ W4, W4 = (((w1.alloc (.cells #[.int .i64 P, .int .i64 I, .int .i64 B] 23)).alloc (.cells #[.int .i64 P, .int .i64 I, .int .i64 B] 23)).alloc (.cells #[.int .i64 P, .int .i64 I, .int .i64 B] 23)).drew := ⟨_, rfl⟩
      have b1 : Below w1.heap.size w1 W4 := by rw [hW4]; exact (below_alloc (below_alloc ((Below.refl _ _).alloc (Nat.le_refl _) _) (Nat.le_refl _) _) (Nat.le_refl _) _).drew
      have HG4 := Lib.hid (blk_below HG1.out b1)
      have HB4 := Lib.hid (below_on HB1.out (Nat.le_refl _) b1)
      rw [← hW4] at x0 x1 x2 ⊢
      clear hW4 b1 HG1 HB1 g0 g1 g2 hlt1 hlt2 hlt3
      generalize w1.heap.size = n at *
      have X0 := Lib.hid x0
      have X1 := Lib.hid x1
      have X2 := Lib.hid x2
      obtain ⟨a0, a1, a2, c0, c1, c2⟩ := blk3 x0
      obtain ⟨k0, k1, k2, r0, r1, r2⟩ := blk3 x1
      obtain ⟨m0, m1, m2, s0, s1, s2⟩ := blk3 x2
      obtain ⟨g0, g1, g2, _, _, _⟩ := blk3 HG4.out
      have u1 : ¬ n = n + 1 := by omega
      have u2 : ¬ n = n + 1 + 1 := by omega
      have u3 : ¬ n + 1 = n + 1 + 1 := by omega
      have u4 : ¬ n + 1 = n := by omega
      have u5 : ¬ n + 1 + 1 = n := by omega
      have u6 : ¬ n + 1 + 1 = n + 1 := by omega
      have v1 : ¬ w.heap.size = n := by omega
      have v2 : ¬ w.heap.size = n + 1 := by omega
      have v3 : ¬ w.heap.size = n + 1 + 1 := by omega
      have Hlt := Lib.hid hlt
      clear x0 x1 x2
      go_wp2_with fail
      refine (HM1.out _).mono ?_
      rintro e w6 ⟨rfl, hb⟩
      obtain ⟨y1, y2, y3⟩ := three_set (W := W4) (a := n + 1 + 1) (b := n) (c := n + 1) (z := w.heap.size) (by omega) (by omega) (by omega) (by omega) (by omega) (by omega) X2.out X0.out X1.out HG4.out (.int .i64 (I + 1)) (.int .i64 (P + 1)) (.int .i64 (B + 1))
      have Y1 := Lib.hid (blk_below y1 hb)
      have Y2 := Lib.hid (blk_below y2 hb)
      have Y3 := Lib.hid (blk_below y3 hb)
      have HB6 := Lib.hid (below_on (((HB4.out.setCell (p := ⟨n + 1 + 1, 1, none⟩) (by show w.heap.size ≤ n + 1 + 1; omega) _).setCell (p := ⟨n, 0, none⟩) (by show w.heap.size ≤ n; omega) _).setCell (p := ⟨n + 1, 2, none⟩) (by show w.heap.size ≤ n + 1; omega) _) (Nat.le_refl _) hb)
      clear hb y1 y2 y3 a0 a1 a2 c0 c1 c2 k0 k1 k2 r0 r1 r2 m0 m1 m2 s0 s1 s2 g0 g1 g2 X0 X1 X2 HB4 HG4
      obtain ⟨a0, a1, a2, _, _, _⟩ := blk3 Y1.out
      obtain ⟨g0, g1, g2, _, _, _⟩ := blk3 Y3.out
      go_wp2_with fail
      refine (HM2.out _).mono ?_
      rintro e w7 ⟨rfl, hb⟩
      have HB7 := Lib.hid (below_on HB6.out (Nat.le_refl _) hb)
      have Z2 := Lib.hid (blk_below Y2.out hb)
      have Z3 := Lib.hid (blk_below Y3.out hb)
      clear hb a0 a1 a2 g0 g1 g2 HB6 Y1 Y2 Y3
      obtain ⟨a0, a1, a2, _, _, _⟩ := blk3 Z2.out
      obtain ⟨g0, g1, g2, _, _, _⟩ := blk3 Z3.out
      go_wp2_with fail
      refine (HM3.out _).mono ?_
      rintro e w8 ⟨rfl, hb⟩
      have HB8 := Lib.hid (below_on HB7.out (Nat.le_refl _) hb)
      clear hb a0 a1 a2 g0 g1 g2 HB7 Z2 Z3
      go_wp2_with fail
      refine (HA.out _).mono ?_
      rintro e w9 ⟨rfl, hb⟩
      have hb9 := below_on HB8.out (Nat.le_refl _) hb
      clear hb HB8
      go_wp2
      go_ret
      exact ⟨rfl, hb9⟩
    · obtain ⟨x0, x1, x2⟩ := three_new w1 (.cells #[.int .i64 P, .int .i64 I, .int .i64 B] 23)
      obtain ⟨W4, hW4⟩ : ∃ W4, W4 = (((w1.alloc (.cells #[.int .i64 P, .int .i64 I, .int .i64 B] 23)).alloc (.cells #[.int .i64 P, .int .i64 I, .int .i64 B] 23)).alloc (.cells #[.int .i64 P, .int .i64 I, .int .i64 B] 23)).drew := ⟨_, rfl⟩
      have b1 : Below w1.heap.size w1 W4 := by rw [hW4]; exact (below_alloc (below_alloc ((Below.refl _ _).alloc (Nat.le_refl _) _) (Nat.le_refl _) _) (Nat.le_refl _) _).drew
      have HG4 := Lib.hid (blk_below HG1.out b1)
      have HB4 := Lib.hid (below_on HB1.out (Nat.le_refl _) b1)
      rw [← hW4] at x0 x1 x2 ⊢
      clear hW4 b1 HG1 HB1 g0 g1 g2 hlt1 hlt2 hlt3
      generalize w1.heap.size = n at *
      have X0 := Lib.hid x0
      have X1 := Lib.hid x1
      have X2 := Lib.hid x2
      obtain ⟨a0, a1, a2, c0, c1, c2⟩ := blk3 x0
      obtain ⟨k0, k1, k2, r0, r1, r2⟩ := blk3 x1
      obtain ⟨m0, m1, m2, s0, s1, s2⟩ := blk3 x2
      obtain ⟨g0, g1, g2, _, _, _⟩ := blk3 HG4.out
      have u1 : ¬ n = n + 1 := by omega
      have u2 : ¬ n = n + 1 + 1 := by omega
      have u3 : ¬ n + 1 = n + 1 + 1 := by omega
      have u4 : ¬ n + 1 = n := by omega
      have u5 : ¬ n + 1 + 1 = n := by omega
      have u6 : ¬ n + 1 + 1 = n + 1 := by omega
      have v1 : ¬ w.heap.size = n := by omega
      have v2 : ¬ w.heap.size = n + 1 := by omega
      have v3 : ¬ w.heap.size = n + 1 + 1 := by omega
      have Hlt := Lib.hid hlt
      clear x0 x1 x2
      go_wp2_with fail
      refine (HM1.out _).mono ?_
      rintro e w6 ⟨rfl, hb⟩
      obtain ⟨y1, y2, y3⟩ := three_set (W := W4) (a := n + 1) (b := n + 1 + 1) (c := n) (z := w.heap.size) (by omega) (by omega) (by omega) (by omega) (by omega) (by omega) X1.out X2.out X0.out HG4.out (.int .i64 (I + 1)) (.int .i64 (P + 1)) (.int .i64 (B + 1))
      have Y1 := Lib.hid (blk_below y1 hb)
      have Y2 := Lib.hid (blk_below y2 hb)
      have Y3 := Lib.hid (blk_below y3 hb)
      have HB6 := Lib.hid (below_on (((HB4.out.setCell (p := ⟨n + 1, 1, none⟩) (by show w.heap.size ≤ n + 1; omega) _).setCell (p := ⟨n + 1 + 1, 0, none⟩) (by show w.heap.size ≤ n + 1 + 1; omega) _).setCell (p := ⟨n, 2, none⟩) (by show w.heap.size ≤ n; omega) _) (Nat.le_refl _) hb)
      clear hb y1 y2 y3 a0 a1 a2 c0 c1 c2 k0 k1 k2 r0 r1 r2 m0 m1 m2 s0 s1 s2 g0 g1 g2 X0 X1 X2 HB4 HG4
      obtain ⟨a0, a1, a2, _, _, _⟩ := blk3 Y1.out
      obtain ⟨g0, g1, g2, _, _, _⟩ := blk3 Y3.out
      go_wp2_with fail
      refine (HM2.out _).mono ?_
      rintro e w7 ⟨rfl, hb⟩
      have HB7 := Lib.hid (below_on HB6.out (Nat.le_refl _) hb)
      have Z2 := Lib.hid (blk_below Y2.out hb)
      have Z3 := Lib.hid (blk_below Y3.out hb)
      clear hb a0 a1 a2 g0 g1 g2 HB6 Y1 Y2 Y3
      obtain ⟨a0, a1, a2, _, _, _⟩ := blk3 Z2.out
      obtain ⟨g0, g1, g2, _, _, _⟩ := blk3 Z3.out
      go_wp2_with fail
      refine (HM3.out _).mono ?_
      rintro e w8 ⟨rfl, hb⟩
      have HB8 := Lib.hid (below_on HB7.out (Nat.le_refl _) hb)
      clear hb a0 a1 a2 g0 g1 g2 HB7 Z2 Z3
      go_wp2_with fail
      refine (HA.out _).mono ?_
      rintro e w9 ⟨rfl, hb⟩
      have hb9 := below_on HB8.out (Nat.le_refl _) hb
      clear hb HB8
      go_wp2
      go_ret
      exact ⟨rfl, hb9⟩
    · obtain ⟨x0, x1, x2⟩ := three_new w1 (.cells #[.int .i64 P, .int .i64 I, .int .i64 B] 23)
      obtain ⟨W4, hW4⟩ : ∃ W4, W4 = (((w1.alloc (.cells #[.int .i64 P, .int .i64 I, .int .i64 B] 23)).alloc (.cells #[.int .i64 P, .int .i64 I, .int .i64 B] 23)).alloc (.cells #[.int .i64 P, .int .i64 I, .int .i64 B] 23)).drew := ⟨_, rfl⟩
      have b1 : Below w1.heap.size w1 W4 := by rw [hW4]; exact (below_alloc (below_alloc ((Below.refl _ _).alloc (Nat.le_refl _) _) (Nat.le_refl _) _) (Nat.le_refl _) _).drew
      have HG4 := Lib.hid (blk_below HG1.out b1)
      have HB4 := Lib.hid (below_on HB1.out (Nat.le_refl _) b1)
      rw [← hW4] at x0 x1 x2 ⊢
      clear hW4 b1 HG1 HB1 g0 g1 g2 hlt1 hlt2 hlt3
      generalize w1.heap.size = n at *
      have X0 := Lib.hid x0
      have X1 := Lib.hid x1
      have X2 := Lib.hid x2
      obtain ⟨a0, a1, a2, c0, c1, c2⟩ := blk3 x0
      obtain ⟨k0, k1, k2, r0, r1, r2⟩ := blk3 x1
      obtain ⟨m0, m1, m2, s0, s1, s2⟩ := blk3 x2
      obtain ⟨g0, g1, g2, _, _, _⟩ := blk3 HG4.out
      have u1 : ¬ n = n + 1 := by omega
      have u2 : ¬ n = n + 1 + 1 := by omega
      have u3 : ¬ n + 1 = n + 1 + 1 := by omega
      have u4 : ¬ n + 1 = n := by omega
      have u5 : ¬ n + 1 + 1 = n := by omega
      have u6 : ¬ n + 1 + 1 = n + 1 := by omega
      have v1 : ¬ w.heap.size = n := by omega
      have v2 : ¬ w.heap.size = n + 1 := by omega
      have v3 : ¬ w.heap.size = n + 1 + 1 := by omega
      have Hlt := Lib.hid hlt
      clear x0 x1 x2
      go_wp2_with fail
      refine (HM1.out _).mono ?_
      rintro e w6 ⟨rfl, hb⟩
      obtain ⟨y1, y2, y3⟩ := three_set (W := W4) (a := n + 1 + 1) (b := n + 1) (c := n) (z := w.heap.size) (by omega) (by omega) (by omega) (by omega) (by omega) (by omega) X2.out X1.out X0.out HG4.out (.int .i64 (I + 1)) (.int .i64 (P + 1)) (.int .i64 (B + 1))
      have Y1 := Lib.hid (blk_below y1 hb)
      have Y2 := Lib.hid (blk_below y2 hb)
      have Y3 := Lib.hid (blk_below y3 hb)
      have HB6 := Lib.hid (below_on (((HB4.out.setCell (p := ⟨n + 1 + 1, 1, none⟩) (by show w.heap.size ≤ n + 1 + 1; omega) _).setCell (p := ⟨n + 1, 0, none⟩) (by show w.heap.size ≤ n + 1; omega) _).setCell (p := ⟨n, 2, none⟩) (by show w.heap.size ≤ n; omega) _) (Nat.le_refl _) hb)
      clear hb y1 y2 y3 a0 a1 a2 c0 c1 c2 k0 k1 k2 r0 r1 r2 m0 m1 m2 s0 s1 s2 g0 g1 g2 X0 X1 X2 HB4 HG4
      obtain ⟨a0, a1, a2, _, _, _⟩ := blk3 Y1.out
      obtain ⟨g0, g1, g2, _, _, _⟩ := blk3 Y3.out
      go_wp2_with fail
      refine (HM2.out _).mono ?_
      rintro e w7 ⟨rfl, hb⟩
      have HB7 := Lib.hid (below_on HB6.out (Nat.le_refl _) hb)
      have Z2 := Lib.hid (blk_below Y2.out hb)
      have Z3 := Lib.hid (blk_below Y3.out hb)
      clear hb a0 a1 a2 g0 g1 g2 HB6 Y1 Y2 Y3
      obtain ⟨a0, a1, a2, _, _, _⟩ := blk3 Z2.out
      obtain ⟨g0, g1, g2, _, _, _⟩ := blk3 Z3.out
      go_wp2_with fail
      refine (HM3.out _).mono ?_
      rintro e w8 ⟨rfl, hb⟩
      have HB8 := Lib.hid (below_on HB7.out (Nat.le_refl _) hb)
      clear hb a0 a1 a2 g0 g1 g2 HB7 Z2 Z3
      go_wp2_with fail
      refine (HA.out _).mono ?_
      rintro e w9 ⟨rfl, hb⟩
      have hb9 := below_on HB8.out (Nat.le_refl _) hb
      clear hb HB8
      go_wp2
      go_ret
      exact ⟨rfl, hb9⟩
  · have HLn := Lib.hid (fun W => Lines_arg P I B hm W)
    unfold gv at HLn ⊢
    clear hm hP hI hB
    go_enter Try.func4, Try.ntmps4
    go_wp2_with fail
    refine (HLn.out _).mono ?_
    rintro e w1 ⟨rfl, hb⟩
    have HB1 := Lib.hid (below_on HBx.out (Nat.le_refl _) hb)
    clear hb HGx HBx
    go_wp2_with fail
    refine (HA.out _).mono ?_
    rintro e w2 ⟨rfl, hb⟩
    have hb2 := below_on HB1.out (Nat.le_refl _) hb
    clear hb
    go_wp2
    go_ret
    exact ⟨rfl, hb2⟩
end Go.Proofs.Ytpjhjpcajdbinaa
