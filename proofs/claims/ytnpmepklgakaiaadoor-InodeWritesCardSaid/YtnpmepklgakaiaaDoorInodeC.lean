/- (inode.told).wrong. -/
import Derived.Test.YtnpmepklgakaiaaDoorInodeB
namespace Go.Proofs.YtnpmepklgakaiaaDoor
open Go.RowKit
set_option linter.unusedVariables false

theorem wrong_at {t : List Nat} {k I B j : Nat} (hj : j < 7) (h : ∀ q, q < j → wordOK q k (t.getD q 0) I B = true) (hb : wordOK j k (t.getD j 0) I B = false) : wrongAt t k I B = j := by
  unfold wrongAt
  rcases (show j = 0 ∨ j = 1 ∨ j = 2 ∨ j = 3 ∨ j = 4 ∨ j = 5 ∨ j = 6 by omega) with rfl | rfl | rfl | rfl | rfl | rfl | rfl
  · rw [if_pos hb]; rfl
  · rw [if_neg (by rw [h 0 (by omega)]; decide), if_pos hb]; rfl
  · rw [if_neg (by rw [h 0 (by omega)]; decide), if_neg (by rw [h 1 (by omega)]; decide), if_pos hb]; rfl
  · rw [if_neg (by rw [h 0 (by omega)]; decide), if_neg (by rw [h 1 (by omega)]; decide), if_neg (by rw [h 2 (by omega)]; decide), if_pos hb]; rfl
  · rw [if_neg (by rw [h 0 (by omega)]; decide), if_neg (by rw [h 1 (by omega)]; decide), if_neg (by rw [h 2 (by omega)]; decide), if_neg (by rw [h 3 (by omega)]; decide), if_pos hb]; rfl
  · rw [if_neg (by rw [h 0 (by omega)]; decide), if_neg (by rw [h 1 (by omega)]; decide), if_neg (by rw [h 2 (by omega)]; decide), if_neg (by rw [h 3 (by omega)]; decide), if_neg (by rw [h 4 (by omega)]; decide), if_pos hb]; rfl
  · rw [if_neg (by rw [h 0 (by omega)]; decide), if_neg (by rw [h 1 (by omega)]; decide), if_neg (by rw [h 2 (by omega)]; decide), if_neg (by rw [h 3 (by omega)]; decide), if_neg (by rw [h 4 (by omega)]; decide), if_neg (by rw [h 5 (by omega)]; decide), if_pos hb]; rfl
theorem wrong_none {t : List Nat} {k I B : Nat} (h : ∀ q, q < 7 → wordOK q k (t.getD q 0) I B = true) : wrongAt t k I B = -1 := by
  unfold wrongAt
  rw [if_neg (by rw [h 0 (by omega)]; decide), if_neg (by rw [h 1 (by omega)]; decide), if_neg (by rw [h 2 (by omega)]; decide), if_neg (by rw [h 3 (by omega)]; decide), if_neg (by rw [h 4 (by omega)]; decide), if_neg (by rw [h 5 (by omega)]; decide), if_neg (by rw [h 6 (by omega)]; decide)]
theorem blk7 {W : World} {b : Nat} {v0 v1 v2 v3 v4 v5 v6 : Value} {t : TypeId} (h : W.heap[b]? = some (.cells #[v0, v1, v2, v3, v4, v5, v6] t (0, 0))) :
    W.cell? ⟨b, 0, none⟩ = some v0 ∧ W.cell? ⟨b, 1, none⟩ = some v1 ∧ W.cell? ⟨b, 2, none⟩ = some v2 ∧ W.cell? ⟨b, 3, none⟩ = some v3 ∧ W.cell? ⟨b, 4, none⟩ = some v4 ∧ W.cell? ⟨b, 5, none⟩ = some v5 ∧ W.cell? ⟨b, 6, none⟩ = some v6 := by
  refine ⟨?_, ?_, ?_, ?_, ?_, ?_, ?_⟩ <;> simp [World.cell?, h]

set_option maxRecDepth 100000 in
set_option maxHeartbeats 8000000 in
theorem wrong_any (t : List Nat) (ht : t.length = 7) (hw : ∀ x ∈ t, x < 18446744073709551616) (P : Int) (I B : Nat) (hB : B < 65536) (W : World) :
    Calls Tryd.prog 20 #[tv t, .agg #[.int .i64 P, .int .i64 (I : Nat), .int .i64 (B : Nat)]] W fun e W' => e = .returned (.int .i64 (wrongAt t (t.getD 0 0 % 256) I B)) ∧ Below W.heap.size W W' := by
  have HM := Lib.hid (fun p hp W => may_any t ht hw p hp (t.getD 0 0 % 256) (by omega) P I B hB W)
  have HAt := Lib.hid (fun j hj h hb => wrong_at (t := t) (k := t.getD 0 0 % 256) (I := I) (B := B) (j := j) hj h hb)
  have HNo := Lib.hid (fun h => wrong_none (t := t) (k := t.getD 0 0 % 256) (I := I) (B := B) h)
  generalize hwr : wrongAt t (t.getD 0 0 % 256) I B = wr0 at *
  generalize hok : (fun q => wordOK q (t.getD 0 0 % 256) (t.getD q 0) I B) = ok at *
  have hoke : ∀ q, wordOK q (t.getD 0 0 % 256) (t.getD q 0) I B = ok q := fun q => by rw [← hok]
  match t, ht with
  | [a0, a1, a2, a3, a4, a5, a6], _ =>
    have HM2 := Lib.hid (show ∀ p, p < 7 → ∀ W : World, Calls Tryd.prog 34 #[.agg #[.int .u64 (a0 : Nat), .int .u64 (a1 : Nat), .int .u64 (a2 : Nat), .int .u64 (a3 : Nat), .int .u64 (a4 : Nat), .int .u64 (a5 : Nat), .int .u64 (a6 : Nat)], .int .i64 (p : Nat), .int .u8 ((a0 : Int) % 256), .agg #[.int .i64 P, .int .i64 (I : Nat), .int .i64 (B : Nat)]] W fun e W' => e = .returned (.bool (ok p)) ∧ Below W.heap.size W W' from fun p hp W => by
      have := HM.out p hp W
      rw [hoke] at this
      exact this)
    have HA2 := Lib.hid (show ∀ j, j < 7 → (∀ q, q < j → ok q = true) → ok j = false → wr0 = (j : Int) from fun j hj h hb => HAt.out j hj (fun q hq => by rw [hoke]; exact h q hq) (by rw [hoke]; exact hb))
    have HN2 := Lib.hid (show (∀ q, q < 7 → ok q = true) → wr0 = -1 from fun h => HNo.out (fun q hq => by rw [hoke]; exact h q hq))
    unfold tv
    simp only [u64s, List.map_cons, List.map_nil]
    have hb0 := (Below.refl W.heap.size W).alloc (Nat.le_refl _) (.cells #[.int .u64 (a0 : Nat), .int .u64 (a1 : Nat), .int .u64 (a2 : Nat), .int .u64 (a3 : Nat), .int .u64 (a4 : Nat), .int .u64 (a5 : Nat), .int .u64 (a6 : Nat)] 48)
    have HB0 := Lib.hid (hb0.alloc (by simp) (.cells #[.int .i64 P, .int .i64 (I : Nat), .int .i64 (B : Nat)] 27))
    have HT0 := Lib.hid (show ((W.alloc (.cells #[.int .u64 (a0 : Nat), .int .u64 (a1 : Nat), .int .u64 (a2 : Nat), .int .u64 (a3 : Nat), .int .u64 (a4 : Nat), .int .u64 (a5 : Nat), .int .u64 (a6 : Nat)] 48)).alloc (.cells #[.int .i64 P, .int .i64 (I : Nat), .int .i64 (B : Nat)] 27)).heap[W.heap.size]? = some (.cells #[.int .u64 (a0 : Nat), .int .u64 (a1 : Nat), .int .u64 (a2 : Nat), .int .u64 (a3 : Nat), .int .u64 (a4 : Nat), .int .u64 (a5 : Nat), .int .u64 (a6 : Nat)] 48 (0, 0)) by
      rw [heap_alloc_old _ _ (by simp)]; exact heap_alloc_new W _)
    have HG0 := Lib.hid (show ((W.alloc (.cells #[.int .u64 (a0 : Nat), .int .u64 (a1 : Nat), .int .u64 (a2 : Nat), .int .u64 (a3 : Nat), .int .u64 (a4 : Nat), .int .u64 (a5 : Nat), .int .u64 (a6 : Nat)] 48)).alloc (.cells #[.int .i64 P, .int .i64 (I : Nat), .int .i64 (B : Nat)] 27)).heap[W.heap.size + 1]? = some (.cells #[.int .i64 P, .int .i64 (I : Nat), .int .i64 (B : Nat)] 27 (0, 0)) by
      have := heap_alloc_new (W.alloc (.cells #[.int .u64 (a0 : Nat), .int .u64 (a1 : Nat), .int .u64 (a2 : Nat), .int .u64 (a3 : Nat), .int .u64 (a4 : Nat), .int .u64 (a5 : Nat), .int .u64 (a6 : Nat)] 48)) (.cells #[.int .i64 P, .int .i64 (I : Nat), .int .i64 (B : Nat)] 27)
      rw [World.size_alloc] at this
      exact this)
    clear HM HAt HNo hwr hok hoke hb0 hw
    go_enter Tryd.func20, Tryd.ntmps20
    go_wp2
    go_loopw [5, 6] (fun _ i wr => ∃ j : Nat, j ≤ 7 ∧ i = .int .i64 j ∧ (∀ q, q < j → ok q = true) ∧ wr.heap[W.heap.size]? = some (.cells #[.int .u64 (a0 : Nat), .int .u64 (a1 : Nat), .int .u64 (a2 : Nat), .int .u64 (a3 : Nat), .int .u64 (a4 : Nat), .int .u64 (a5 : Nat), .int .u64 (a6 : Nat)] 48 (0, 0)) ∧ wr.heap[W.heap.size + 1]? = some (.cells #[.int .i64 P, .int .i64 (I : Nat), .int .i64 (B : Nat)] 27 (0, 0)) ∧ Below W.heap.size W wr) (fun _ i _ => 7 - (intOf i).toNat)
    case atStart => exact ⟨0, by omega, rfl, fun q h => by omega, HT0.out, HG0.out, HB0.out⟩
    case round =>
      obtain ⟨j, hj, rfl, hall, htb, hgb, hbw⟩ := hrel
      have HAll := Lib.hid hall
      have HTb := Lib.hid htb
      have HGb := Lib.hid hgb
      have HBw := Lib.hid hbw
      clear hall hbw
      by_cases hlt : j < 7
      · have hlt' : (j : Int) < 7 := by omega
        obtain ⟨c0, c1, c2, c3, c4, c5, c6⟩ := blk7 htb
        obtain ⟨g0, g1, g2, _, _, _⟩ := blk3 hgb
        clear htb hgb
        go_wp2_with fail
        refine (HM2.out j hlt _).mono ?_
        rintro e w2 ⟨rfl, hb2⟩
        have HB2 := Lib.hid (below_then HBw.out hb2)
        have HT2 := Lib.hid ((hb2.block _ (lt_of_block HTb.out)).trans HTb.out)
        have HG2 := Lib.hid ((hb2.block _ (lt_of_block HGb.out)).trans HGb.out)
        clear hb2 c0 c1 c2 c3 c4 c5 c6 g0 g1 g2
        cases hokj : ok j with
        | false =>
          have he := HA2.out j hlt HAll.out hokj
          have He := Lib.hid he
          clear he hokj
          go_wp2
          go_ret
          exact ⟨by rw [He.out]; rfl, HB2.out⟩
        | true =>
          have Hy := Lib.hid (show ∀ q, q < j + 1 → ok q = true from fun q hq => by
            rcases Nat.lt_or_ge q j with h3 | h3
            · exact HAll.out q h3
            · obtain rfl : q = j := by omega
              exact hokj)
          clear hokj
          go_wp2
          go_roundw
          case rel => exact ⟨j + 1, by omega, by go_num, Hy.out, HT2.out, HG2.out, HB2.out⟩
          case measure => simp [intOf]; omega
      · obtain rfl : j = 7 := by omega
        have He := Lib.hid (HN2.out HAll.out)
        clear htb hgb
        go_wp2
        go_ret
        exact ⟨by rw [He.out]; rfl, HBw.out⟩
end Go.Proofs.YtnpmepklgakaiaaDoor
