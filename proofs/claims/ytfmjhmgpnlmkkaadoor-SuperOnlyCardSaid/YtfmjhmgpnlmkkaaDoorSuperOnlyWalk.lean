/- The walk of the law SuperOnly. -/
import Derived.Test.YtfmjhmgpnlmkkaaDoorSuperEnc
namespace Go.Proofs.YtfmjhmgpnlmkkaaDoor
open Go.RowKit
set_option linter.unusedVariables false

theorem keepB3 {n : Nat} {w a b : World} {p0 p1 p2 q0 q1 q2 : Addr} {u0 u1 u2 v0 v1 v2 : Value} (h : a.cell? p0 = some u0 ∧ a.cell? p1 = some u1 ∧ a.cell? p2 = some u2 ∧ a.cell? q0 = some v0 ∧ a.cell? q1 = some v1 ∧ a.cell? q2 = some v2 ∧ Below n w a) (hn : n ≤ w.heap.size) (hb : Below a.heap.size a b) :
    b.cell? p0 = some u0 ∧ b.cell? p1 = some u1 ∧ b.cell? p2 = some u2 ∧ b.cell? q0 = some v0 ∧ b.cell? q1 = some v1 ∧ b.cell? q2 = some v2 ∧ Below n w b :=
  ⟨(hb.cell (World.block_lt_of_cell? _ _ h.1)).trans h.1, (hb.cell (World.block_lt_of_cell? _ _ h.2.1)).trans h.2.1, (hb.cell (World.block_lt_of_cell? _ _ h.2.2.1)).trans h.2.2.1, (hb.cell (World.block_lt_of_cell? _ _ h.2.2.2.1)).trans h.2.2.2.1, (hb.cell (World.block_lt_of_cell? _ _ h.2.2.2.2.1)).trans h.2.2.2.2.1, (hb.cell (World.block_lt_of_cell? _ _ h.2.2.2.2.2.1)).trans h.2.2.2.2.2.1, h.2.2.2.2.2.2.trans (hb.mono (Nat.le_trans hn h.2.2.2.2.2.2.size))⟩
theorem last7 {a b c d e f g : Prop} (h : a ∧ b ∧ c ∧ d ∧ e ∧ f ∧ g) : g := h.2.2.2.2.2.2
set_option maxRecDepth 100000 in
set_option maxHeartbeats 8000000 in
theorem superOnly_walk (w : World) (hg : Laid w) (P I B : Int) (hP : I64 P) (hI : I64 I) (hB : I64 B) (P' I' B' : Int) (hP' : I64 P') (hI' : I64 I') (hB' : I64 B') (one other : Bool) :
    Calls Tryd.prog 6 #[gv P I B, gv P' I' B', .bool one, .bool other] w fun e w' => e = .returned (.bool true) ∧ Below w.heap.size w w' := by
  have HG := Lib.hid hg
  have HA := Lib.hid (fun W (hW : Below w.heap.size w W) => alive_any W (HG.out.below hW))
  have HE := Lib.hid (fun W => Encode_any P I B one W)
  have HE' := Lib.hid (fun W => Encode_any P' I' B' other W)
  unfold gv
  have hb0 := (Below.refl _ w).alloc (Nat.le_refl _) (.cells #[.int .i64 P, .int .i64 I, .int .i64 B] 23)
  have hb01 := hb0.alloc (by simp) (.cells #[.int .i64 P', .int .i64 I', .int .i64 B'] 23)
  have hge : ((w.alloc (.cells #[.int .i64 P, .int .i64 I, .int .i64 B] 23)).alloc (.cells #[.int .i64 P', .int .i64 I', .int .i64 B'] 23)).heap[w.heap.size]? = some (.cells #[.int .i64 P, .int .i64 I, .int .i64 B] 23 (0, 0)) := by
    rw [heap_alloc_old _ _ (by simp)]; exact heap_alloc_new w _
  have hge' : ((w.alloc (.cells #[.int .i64 P, .int .i64 I, .int .i64 B] 23)).alloc (.cells #[.int .i64 P', .int .i64 I', .int .i64 B'] 23)).heap[w.heap.size + 1]? = some (.cells #[.int .i64 P', .int .i64 I', .int .i64 B'] 23 (0, 0)) := by
    have := heap_alloc_new (w.alloc (.cells #[.int .i64 P, .int .i64 I, .int .i64 B] 23)) (.cells #[.int .i64 P', .int .i64 I', .int .i64 B'] 23)
    rw [World.size_alloc] at this
    exact this
  have HB0 := Lib.hid hb01
  have HGe := Lib.hid hge
  have HGe' := Lib.hid hge'
  have hq := run_eqG
  have hgd := guard_eqG
  clear hg hP hI hB hP' hI' hB' hb0 hb01 hge hge'
  go_enter Tryd.func6, Tryd.ntmps6
  go_wp2_with fail
  refine (HE.out _).mono ?_
  rintro e w1 (⟨_, rfl, hb1⟩ | ⟨p, i, b, rfl, rfl, rfl, hm, A1, c1, rfl, ho1, hb1⟩)
  · have HB1 := Lib.hid (below_then HB0.out hb1)
    have HGe1' := Lib.hid ((hb1.block _ (lt_of_block HGe'.out)).trans HGe'.out)
    obtain ⟨a0, a1, a2, _, _, _⟩ := blk3 HGe1'.out
    clear hb1
    go_wp2_with fail
    refine (HE'.out _).mono ?_
    rintro e w2 (⟨_, rfl, hb2⟩ | ⟨p', i', b', rfl, rfl, rfl, hm', A2, c2, rfl, ho2, hb2⟩)
    · have HB2 := Lib.hid (below_then HB1.out hb2)
      clear hb2 a0 a1 a2
      go_wp2_with fail
      refine (HA.out _ HB2.out).mono ?_
      rintro e w3 ⟨rfl, hb3⟩
      have HB3 := Lib.hid (below_then HB2.out hb3)
      clear hb3
      go_wp2
      go_ret
      exact ⟨rfl, HB3.out⟩
    · have HB2 := Lib.hid (below_then HB1.out hb2)
      clear hb2 a0 a1 a2
      go_wp2_with fail
      refine (HA.out _ HB2.out).mono ?_
      rintro e w3 ⟨rfl, hb3⟩
      have HB3 := Lib.hid (below_then HB2.out hb3)
      clear hb3
      go_wp2
      go_ret
      exact ⟨rfl, HB3.out⟩
  · have HB1 := Lib.hid (below_then HB0.out hb1)
    have HGe1' := Lib.hid ((hb1.block _ (lt_of_block HGe'.out)).trans HGe'.out)
    have HGe1 := Lib.hid ((hb1.block _ (lt_of_block HGe.out)).trans HGe.out)
    have HR1 := Lib.hid (Rd.of_own ho1)
    have HM := Lib.hid hm
    obtain ⟨a0, a1, a2, _, _, _⟩ := blk3 HGe1'.out
    clear hb1 ho1 hm
    go_wp2_with fail
    refine (HE'.out _).mono ?_
    rintro e w2 (⟨_, rfl, hb2⟩ | ⟨p', i', b', rfl, rfl, rfl, hm', A2, c2, rfl, ho2, hb2⟩)
    · have HB2 := Lib.hid (below_then HB1.out hb2)
      clear hb2 a0 a1 a2
      go_wp2_with fail
      refine (HA.out _ HB2.out).mono ?_
      rintro e w3 ⟨rfl, hb3⟩
      have HB3 := Lib.hid (below_then HB2.out hb3)
      clear hb3
      go_wp2
      go_ret
      exact ⟨rfl, HB3.out⟩
    · have HB2 := Lib.hid (below_then HB1.out hb2)
      have hg2' := (hb2.block _ (lt_of_block HGe1'.out)).trans HGe1'.out
      have hg2 := (hb2.block _ (lt_of_block HGe1.out)).trans HGe1.out
      have hlen : ∀ (x y z : Nat) (h : Bool), (sealed (superL x y z h)).length = 8 := fun _ _ _ _ => rfl
      have HSm := Lib.hid (fun W (hW : Below w2.heap.size w2 W) => same_any (.slice A1 8 c1) (.slice A2 8 c2) (sealed (superL p i b one)) (sealed (superL p' i' b' other)) W (by rw [hlen]; exact (HR1.out.below hb2).below hW) (by rw [hlen]; exact (Rd.of_own ho2).below hW))
      have hiff : decide (sealed (superL p i b one) = sealed (superL p' i' b' other)) = (((p : Int) == (p' : Int) && ((i : Int) == (i' : Int) && (b : Int) == (b' : Int))) && (one == other)) := by
        rw [Bool.eq_iff_iff]
        simp only [decide_eq_true_eq, Bool.and_eq_true, beq_iff_eq]
        constructor
        · intro h
          obtain ⟨h1, h2, h3, h4⟩ := super_inj HM.out hm' h
          exact ⟨⟨by rw [h1], by rw [h2], by rw [h3]⟩, h4⟩
        · rintro ⟨⟨h1, h2, h3⟩, h4⟩
          rw [show p = p' by omega, show i = i' by omega, show b = b' by omega, h4]
      have hSm : ∀ W (hW : Below w2.heap.size w2 W), Calls Tryd.prog 10 #[.slice A1 8 c1, .slice A2 8 c2] W fun e w' => e = .returned (.bool (((p : Int) == (p' : Int) && ((i : Int) == (i' : Int) && (b : Int) == (b' : Int))) && (one == other))) ∧ Below W.heap.size W w' := fun W hW => by
        refine (HSm.out W hW).mono ?_
        rintro e w' ⟨rfl, n, rfl⟩
        exact ⟨by rw [hiff], below_drewN (Below.refl _ _) n⟩
      have HS := Lib.hid hSm
      clear a0 a1 a2
      obtain ⟨a0, a1, a2, _, _, _⟩ := blk3 hg2
      obtain ⟨b0, b1, b2, _, _, _⟩ := blk3 hg2'
      have hB2 := Below.refl w2.heap.size w2
      clear hb2 hSm HSm hiff hlen hg2 hg2' hm' ho2
      have hqE := fun W => run_eqG W (p : Nat) (i : Nat) (b : Nat) (p' : Nat) (i' : Nat) (b' : Nat)
      clear hq
      generalize ((p : Int) == (p' : Int) && ((i : Int) == (i' : Int) && (b : Int) == (b' : Int))) = E at *
      obtain ⟨r, hr⟩ : ∃ r, r = (E && (one == other)) := ⟨_, rfl⟩
      rw [← hr] at HS
      have hr2 : r = if E then (one == other) else false := by rw [hr]; cases E <;> rfl
      clear hr
      cases E with
      | false =>
        simp only [if_false, Bool.false_eq_true] at hr2
        subst hr2
        go_wp2
        first | go_region_with (first | (go_at_call 10; refine (HS.out _ (Below.refl _ _).drew).mono ?_; rintro e wN ⟨rfl, hbN⟩; have k0 := (hbN.cell (World.block_lt_of_cell? _ _ a0)).trans a0; have k1 := (hbN.cell (World.block_lt_of_cell? _ _ a1)).trans a1; have k2 := (hbN.cell (World.block_lt_of_cell? _ _ a2)).trans a2; have m0 := (hbN.cell (World.block_lt_of_cell? _ _ b0)).trans b0; have m1 := (hbN.cell (World.block_lt_of_cell? _ _ b1)).trans b1; have m2 := (hbN.cell (World.block_lt_of_cell? _ _ b2)).trans b2) | (go_at_call 9; refine (HA.out _ (below_then HB2.out.drew hbN)).mono ?_; rintro e wM ⟨rfl, hbM⟩)) | fail
        all_goals go_wp2
        all_goals go_ret
        all_goals exact ⟨rfl, below_then (below_then HB2.out.drew hbN) hbM⟩
      | true =>
        simp only [if_true] at hr2
        subst hr2
        go_wp2
        first | go_region_with (first | (go_at_call 10; refine (HS.out _ (Below.refl _ _).drew).mono ?_; rintro e wN ⟨rfl, hbN⟩; have k0 := (hbN.cell (World.block_lt_of_cell? _ _ a0)).trans a0; have k1 := (hbN.cell (World.block_lt_of_cell? _ _ a1)).trans a1; have k2 := (hbN.cell (World.block_lt_of_cell? _ _ a2)).trans a2; have m0 := (hbN.cell (World.block_lt_of_cell? _ _ b0)).trans b0; have m1 := (hbN.cell (World.block_lt_of_cell? _ _ b1)).trans b1; have m2 := (hbN.cell (World.block_lt_of_cell? _ _ b2)).trans b2) | (go_at_call 9; refine (HA.out _ (below_then HB2.out.drew hbN)).mono ?_; rintro e wM ⟨rfl, hbM⟩)) | fail
        all_goals go_wp2
        all_goals go_ret
        all_goals exact ⟨rfl, below_then (below_then HB2.out.drew hbN) hbM⟩
end Go.Proofs.YtfmjhmgpnlmkkaaDoor
