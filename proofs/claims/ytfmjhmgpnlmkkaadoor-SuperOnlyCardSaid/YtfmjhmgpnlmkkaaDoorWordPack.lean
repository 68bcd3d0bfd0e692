/- Pack, on both sides: the words that a text is. -/
import Derived.Test.YtfmjhmgpnlmkkaaDoorPackPlain
import Derived.Test.YtfmjhmgpnlmkkaaDoorWordPut
import Derived.Test.YtfmjhmgpnlmkkaaDoorRefText
import Derived.Test.YtfmjhmgpnlmkkaaDoorCopy
import Derived.StillTailTactics
import Derived.Deep.QuietTactic
import Derived.BigQuiet
namespace Go.Proofs.YtfmjhmgpnlmkkaaDoor
open Go.RowKit
set_option linter.unusedVariables false

theorem quiet_eq {P : Program} {f : FuncId} {args : Array Value} {w : World} {n : Nat} {v : Value}
    (h : Calls P f args (w.drewN n) fun e w' => e = .returned v ∧ w.drewN n = w') : Calls P f args (w.drewN n) fun e w'' => e = .returned v ∧ ∃ m, w'' = w.drewN m :=
  h.mono fun _ _ ⟨he, hm⟩ => ⟨he, n, hm.symm⟩
/-- the text that was packed stands in the words -/
theorem textOf_packed (b : List Nat) (hb : ∀ x ∈ b, x < 256) : textOf (packed b) b.length = b := by
  apply List.ext_getElem (textOf_length _ _)
  intro k h1 h2
  have h := packTo_byte b ((b.length + 7) / 8) hb b.length (by omega) k h2
  have e : b.getD k 0 = b[k] := by simp [List.getD, h2]
  rw [e] at h
  rw [← h]
  simp only [textOf, List.getElem_map, List.getElem_range]
  rfl
theorem bs_getD (s : ByteArray) (k : Nat) (h : k < s.size) : (bs s).getD k 0 = s[k].toNat := by
  simp [bs, List.getD, h]; rfl

set_option maxRecDepth 100000 in
set_option maxHeartbeats 4000000 in
theorem Pack_full (s : ByteArray) (w : World) (hs : s.size ≤ 65536) :
    Calls Tryd.prog 16 #[.string s] w fun e w' => e = .returned (.slice (some ⟨w.heap.size, 0, none⟩) ((s.size + 7) / 8) ((s.size + 7) / 8)) ∧ w'.ownsRow w.heap.size 42 1 (.slice (some ⟨w.heap.size, 0, none⟩) ((s.size + 7) / 8) ((s.size + 7) / 8)) ((s.size + 7) / 8) (u64s (packed (bs s))) ∧ Below w.heap.size w w' := by
  obtain ⟨i0, hi, hz0, hz1, hz2⟩ := info_parts info64
  have hlen := bs_length s
  obtain ⟨m, hm⟩ : ∃ m, m = (s.size + 7) / 8 := ⟨_, rfl⟩
  have hmi : (s.size + 7 : Int) / 8 = (m : Int) := by omega
  have hP : packed (bs s) = packTo (bs s) m s.size := by unfold packed; rw [hlen, ← hm]
  have hm1 : 8 * m ≤ s.size + 7 := by omega
  have hm2 : s.size ≤ 8 * m := by omega
  have Hlen := Lib.hid hlen
  have HP := Lib.hid hP
  rw [← hm]
  have HM := Lib.hid hmi
  clear hlen hP hm hmi
  go_enter Tryd.func16, Tryd.ntmps16
  go_wp2_with (first
    | (at_make; refine wpList_make_full _ rfl (.tmp 8) (.tmp 8) 24 rfl w.heap.size 42 i0 _ 1 Tryd.underlying24 hi hz0 hz1 .i64 .i64 _ _ m rfl rfl HM.out HM.out (by rw [hz2]; omega) (by unfold maxLen; omega) (Nat.le_refl _) ?_; intro w1 hown1 hg1; have hb1 : Below w.heap.size w w1 := (Below.refl _ _).grown hg1 (Nat.le_refl _) (by intro k h; cases h)))
  rw [made64, ← show packTo (bs s) m 0 = List.replicate m 0 from rfl] at hown1
  go_loopw [4, 12] (fun _ k wr => ∃ j : Nat, j ≤ s.size ∧ k = .int .i64 j ∧ wr.ownsRow w.heap.size 42 1 (.slice (some ⟨w.heap.size, 0, none⟩) m m) m (u64s (packTo (bs s) m j)) ∧ Below w.heap.size w wr) (fun _ k _ => s.size - (intOf k).toNat)
  case atStart => exact ⟨0, by omega, rfl, hown1, hb1⟩
  case round =>
    obtain ⟨j, hj, rfl, hown, hb⟩ := hrel
    clear hown1 hb1 hg1
    by_cases hlt : j < s.size
    · have hq : j / 8 < m := by omega
      have hqp : j / 8 < (packTo (bs s) m j).length := by rw [packTo_length]; exact hq
      have hc := (hown.cellAt (j / 8) (by omega)).trans (u64s_at hqp)
      have hfr := hown.frozenAt (j / 8)
      have hsm := packTo_here (bs s) m j (by omega)
      have hbj := bs_getD s j hlt
      have hg : (packTo (bs s) m j).getD (j / 8) 0 = (packTo (bs s) m j)[j / 8] := by simp [List.getD, hqp]
      have hx := packTo_wd (bs s) m j _ (List.getElem_mem hqp)
      have hst := (hown.stored (j / 8) (.int .u64 ((putW (packTo (bs s) m j)[j / 8] (8 * (j % 8)) 8 s[j].toNat : Nat) : Int))).1
      rw [u64s_setAt, ← hg, ← hbj, show (packTo (bs s) m j).set (j / 8) (putW ((packTo (bs s) m j).getD (j / 8) 0) (8 * (j % 8)) 8 ((bs s).getD j 0)) = packTo (bs s) m (j + 1) from rfl, hg, hbj] at hst
      rw [hg] at hsm
      generalize (packTo (bs s) m j)[j / 8] = x at *
      have hb8 := s[j].toNat_lt
      have hor := or_small (v := s[j].toNat) (n := 8) hsm (by omega)
      have hsh := shl_in (v := s[j].toNat) (a := 8 * (j % 8)) (n := 8) (by omega) (by omega)
      have hval : bits BinOp.or IntKind.u64 (x : Int) (IntKind.u64.wrap ((s[j].toNat : Int) * 2 ^ (8 * (j % 8)))) = ((putW x (8 * (j % 8)) 8 s[j].toNat : Nat) : Int) := by
        rw [shl_val (n := 8) (by omega) (by omega), u64_or_nat _ _ hx hsh, hor]
      have Hst := Lib.hid hst
      have Hb := Lib.hid hb
      have Hval := Lib.hid hval
      have hq1 : (j : Int) / 8 < (m : Int) := by omega
      have hq2 : (0 : Int) ≤ (j : Int) / 8 := by omega
      have hq3 : ((j : Int) / 8).toNat = j / 8 := by omega
      have hq4 : (0 : Int) ≤ (j : Int) % 8 := by omega
      have hq5 : (8 * ((j : Int) % 8)).toNat = 8 * (j % 8) := by omega
      have hq6 : (0 : Int) ≤ 8 * ((j : Int) % 8) := by omega
      have hlt' : (j : Int) < (s.size : Int) := by omega
      clear hst hb hval hor hsh hsm hbj hg hown
      go_wp2
      go_still_tail 15, (by kernel_rfl)
      repeat (refine wpStill_step (fun K hK => ?_); go_simp; (try go_bits); (try go_simp); refine hK _ ?_; clear hK K)
      refine wpStill_nil ?_
      go_wp2
      rw [Hval.out]
      go_roundw
      case rel => exact ⟨j + 1, by omega, by go_num, Hst.out, (Hb.out.setCell (Nat.le_refl _) _).drew⟩
      case measure => simp [intOf]; omega
    · obtain rfl : j = s.size := by omega
      rw [← HP.out] at hown
      have Hown := Lib.hid hown
      clear hown
      go_wp2
      go_ret
      exact ⟨rfl, Hown.out, hb⟩
theorem Pack_any (s : ByteArray) (w : World) (hs : s.size ≤ 65536) :
    Calls Tryd.prog 16 #[.string s] w (Hands w 42 1 ((s.size + 7) / 8) (u64s (packed (bs s)))) := by
  refine (Pack_full s w hs).mono ?_
  rintro e w' ⟨rfl, ho, hb⟩
  exact ⟨_, _, rfl, ho, hb⟩

set_option maxRecDepth 100000 in
set_option maxHeartbeats 4000000 in
theorem refPack_any (s : ByteArray) (w : World) (hs : s.size ≤ 65536) :
    Calls Tryd.prog 22 #[.string s] w (Hands w 42 1 ((s.size + 7) / 8) (u64s (packed (bs s)))) := by
  obtain ⟨i0, hi, hz0, hz1, hz2⟩ := info_parts info64
  have hlen := bs_length s
  obtain ⟨m, hm⟩ : ∃ m, m = (s.size + 7) / 8 := ⟨_, rfl⟩
  have hmi : (s.size + 7 : Int) / 8 = (m : Int) := by omega
  have hP : packed (bs s) = packTo (bs s) m s.size := by unfold packed; rw [hlen, ← hm]
  have hm1 : 8 * m ≤ s.size + 7 := by omega
  have hm2 : s.size ≤ 8 * m := by omega
  have Hlen := Lib.hid hlen
  have HP := Lib.hid hP
  rw [← hm]
  have HM := Lib.hid hmi
  clear hlen hP hm hmi
  go_enter Tryd.func22, Tryd.ntmps22
  go_wp2_with (first
    | (at_make; refine wpList_make_full _ rfl (.tmp 10) (.tmp 10) 24 rfl w.heap.size 42 i0 _ 1 Tryd.underlying24 hi hz0 hz1 .i64 .i64 _ _ m rfl rfl HM.out HM.out (by rw [hz2]; omega) (by unfold maxLen; omega) (Nat.le_refl _) ?_; intro w1 hown1 hg1; have hb1 : Below w.heap.size w w1 := (Below.refl _ _).grown hg1 (Nat.le_refl _) (by intro k h; cases h)))
  rw [made64, ← show packTo (bs s) m 0 = List.replicate m 0 from rfl] at hown1
  go_loopw [4, 5, 6] (fun k _ _ wr => ∃ j : Nat, j ≤ s.size ∧ k = .int .i64 j ∧ wr.ownsRow w.heap.size 42 1 (.slice (some ⟨w.heap.size, 0, none⟩) m m) m (u64s (packTo (bs s) m j)) ∧ Below w.heap.size w wr) (fun k _ _ _ => s.size - (intOf k).toNat)
  case atStart => exact ⟨0, by omega, rfl, hown1, hb1⟩
  case round =>
    obtain ⟨j, hj, rfl, hown, hb⟩ := hrel
    clear hown1 hb1 hg1
    by_cases hlt : j < s.size
    · have hq : j / 8 < m := by omega
      have hqp : j / 8 < (packTo (bs s) m j).length := by rw [packTo_length]; exact hq
      have hc := (hown.cellAt (j / 8) (by omega)).trans (u64s_at hqp)
      have hfr := hown.frozenAt (j / 8)
      have hsm := packTo_here (bs s) m j (by omega)
      have hbj := bs_getD s j hlt
      have hg : (packTo (bs s) m j).getD (j / 8) 0 = (packTo (bs s) m j)[j / 8] := by simp [List.getD, hqp]
      have hx := packTo_wd (bs s) m j _ (List.getElem_mem hqp)
      have hst := (hown.stored (j / 8) (.int .u64 ((putW (packTo (bs s) m j)[j / 8] (8 * (j % 8)) 8 s[j].toNat : Nat) : Int))).1
      rw [u64s_setAt, ← hg, ← hbj, show (packTo (bs s) m j).set (j / 8) (putW ((packTo (bs s) m j).getD (j / 8) 0) (8 * (j % 8)) 8 ((bs s).getD j 0)) = packTo (bs s) m (j + 1) from rfl, hg, hbj] at hst
      rw [hg] at hsm
      generalize (packTo (bs s) m j)[j / 8] = x at *
      have hb8 := s[j].toNat_lt
      have HPut := Lib.hid (fun W => refPut_yes x s[j].toNat (8 * ((j : Int) % 8)) 8 (by unfold Fld; omega) hx (by simpa using hb8) W)
      have Hst := Lib.hid hst
      have Hb := Lib.hid hb
      have hq1 : (j : Int) / 8 < (m : Int) := by omega
      have hq2 : (0 : Int) ≤ (j : Int) / 8 := by omega
      have hq3 : ((j : Int) / 8).toNat = j / 8 := by omega
      have hq4 : (0 : Int) ≤ (j : Int) % 8 := by omega
      have hq5 : (8 * ((j : Int) % 8)).toNat = 8 * (j % 8) := by omega
      have hq6 : (0 : Int) ≤ 8 * ((j : Int) % 8) := by omega
      have hlt' : (j : Int) < (s.size : Int) := by omega
      clear hst hb hsm hbj hg hown
      go_wp2
      go_quiet ((go_at_call 31; exact quiet_eq (HPut.out _)))
      go_wp2
      go_roundw
      case rel => exact ⟨j + 1, by omega, by go_num, Hst.out, (below_drewN Hb.out nq).setCell (Nat.le_refl _) _⟩
      case measure => simp [intOf]; omega
    · obtain rfl : j = s.size := by omega
      rw [← HP.out] at hown
      have Hown := Lib.hid hown
      clear hown
      go_wp2
      go_ret
      exact ⟨_, _, rfl, Hown.out, hb⟩
end Go.Proofs.YtfmjhmgpnlmkkaaDoor
