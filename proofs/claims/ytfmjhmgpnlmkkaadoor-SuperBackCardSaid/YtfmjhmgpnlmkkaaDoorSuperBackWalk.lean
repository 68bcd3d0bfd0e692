/- The walk of the law SuperBack. -/
import Derived.Test.YtfmjhmgpnlmkkaaDoorSuperEnc
namespace Go.Proofs.YtfmjhmgpnlmkkaaDoor
open Go.RowKit
set_option linter.unusedVariables false

theorem run_neG (w : World) (P I B : Int) : (binOp .neq 23 (.agg #[.int .i64 P, .int .i64 I, .int .i64 B]) (.agg #[.int .i64 P, .int .i64 I, .int .i64 B])).run Tryd.prog w = .ok (.bool false) w := by
  have hS : Tryd.prog.underlying 23 = some (.struct (Tryd.prog.fieldsOf 23)) := by kernel_rfl
  have hp : Tryd.prog.stoodInHeld 23 = false := by kernel_rfl
  rw [run_neq_struct, show (10000 : Nat) = 9999 + 1 from rfl, run_equalIn_agg w 9999 23 _ _ hS hp]
  simp only [Program.fieldsOf, Tryd.underlying23]
  go_simp
theorem xor_one (z r : Nat) (hz : z < 18446744073709551616) (hr : r < 64) : bits BinOp.xor IntKind.u64 (z : Int) (IntKind.u64.wrap (2 ^ r)) = ((z ^^^ 2 ^ r : Nat) : Int) := by
  have h2 : 2 ^ r < 18446744073709551616 := Nat.pow_lt_pow_right (a := 2) (n := 64) (by decide) hr
  have e : IntKind.u64.wrap (2 ^ r) = ((2 ^ r : Nat) : Int) := by
    rw [IntKind.wrap_u64, show ((2 : Int) ^ r) = ((2 ^ r : Nat) : Int) by simp]
    generalize 2 ^ r = q at *
    omega
  rw [e]
  exact u64_xor_nat z (2 ^ r) hz h2
/-- what was encoded is decoded as itself -/
theorem Decode_enc (p i b : Nat) (hm : MayG (p : Nat) (i : Nat) (b : Nat)) (high : Bool) (v : Value) (W : World) (hL : Laid W) (hr : Rd W v 8 (u64s (sealed (superL p i b high)))) :
    Calls Tryd.prog 14 #[v] W fun e w' => e = .returned (.tuple #[.agg #[.int .i64 (p : Nat), .int .i64 (i : Nat), .int .i64 (b : Nat)], .bool high, .nilIface]) ∧ Below W.heap.size W w' := by
  have hp : p < 65536 := by have := hm.2.1; omega
  have hi : i < 65536 := by have := hm.2.2.2.1; omega
  have hb : b < 65536 := by have := hm.2.2.2.2.2; omega
  obtain ⟨d0, d1, d2, d3, d4⟩ := dec_super hm high
  refine (Decode_any v (sealed (superL p i b high)) W (sealed_wd (superL_wd hp hi hb high)) (by show 8 ≤ 65536; decide) hr hL).mono ?_
  rintro e w' (⟨_, h1, h2⟩ | ⟨h, _⟩)
  · rw [d1, d2, d3, d4] at h1
    exact ⟨h1, h2⟩
  · exact (h d0).elim

set_option maxRecDepth 100000 in
set_option maxHeartbeats 16000000 in
theorem superBack_walk (w : World) (hg : Laid w) (P I B : Int) (hP : I64 P) (hI : I64 I) (hB : I64 B) (high : Bool) (at_ : Nat) (hat : at_ < 65536) (turns : Nat) (ht : turns < 4294967296) (v : Value) (s : List Nat) (hs : ∀ x ∈ s, x < 2 ^ 64) (hr : Rd w v s.length (u64s s)) :
    Calls Tryd.prog 5 #[gv P I B, .bool high, .int .u16 at_, .int .u32 turns, v] w fun e w' => e = .returned (.bool true) ∧ Below w.heap.size w w' := by
  have HR := Lib.hid hr
  have HW := Lib.hid (show Wd s from hs)
  have HG := Lib.hid hg
  have HA := Lib.hid (fun W (hW : Below w.heap.size w W) => alive_any W (HG.out.below hW))
  obtain ⟨A, c, rfl, h1, h2, h3⟩ := hr
  unfold maxLen at h2
  have hb0 := (Below.refl _ w).alloc (Nat.le_refl _) (.cells #[.int .i64 P, .int .i64 I, .int .i64 B] 23)
  have HB0 := Lib.hid hb0
  have HGe := Lib.hid (show (w.alloc (.cells #[.int .i64 P, .int .i64 I, .int .i64 B] 23)).heap[w.heap.size]? = some (.cells #[.int .i64 P, .int .i64 I, .int .i64 B] 23 (0, 0)) from heap_alloc_new w _)
  have HR0 := Lib.hid (HR.out.below hb0)
  unfold gv
  clear h3 hg hs hP hI hB hb0
  by_cases hbig : 40 < s.length
  · have hd : decide ((40 : Int) < (s.length : Int)) = true := by simp; omega
    clear hbig
    go_enter Tryd.func5, Tryd.ntmps5
    go_wp2_with fail
    refine (HA.out _ HB0.out).mono ?_
    rintro e w1 ⟨rfl, hb⟩
    have HB := Lib.hid (below_then HB0.out hb)
    clear hb
    go_wp2
    go_ret
    exact ⟨rfl, HB.out⟩
  have hd : decide ((40 : Int) < (s.length : Int)) = false := by simp; omega
  have hlb : s.length ≤ 40 := by omega
  clear hbig
  obtain ⟨K, hKd⟩ : ∃ K, K = at_ % 481 := ⟨_, rfl⟩
  have hK : ((at_ : Int) % 481) = (K : Int) := by omega
  have hKlt : K < 481 := by omega
  have hne := run_neG
  have hgd := guard_eqG
  clear hKd
  go_enter Tryd.func5, Tryd.ntmps5
  go_wp2_with (at_builtin; refine copy64 rfl (.const (.slice none 0 0)) (.tmp 28) rfl rfl _ s _ rfl rfl HR0.out (by omega) ?_; intro A1 c1 w1 hown1 hb1; have HR1 := Lib.hid (Rd.of_own hown1); have HB1 := Lib.hid (below_then HB0.out hb1); have HG1 := Lib.hid ((hb1.block _ (lt_of_block HGe.out)).trans HGe.out); clear hown1 hb1)
  refine (Decode_any _ s _ HW.out (by omega) HR1.out (HG.out.below HB1.out)).mono ?_
  rintro e w2 (⟨hd2, rfl, hb2⟩ | ⟨hd2, rfl, hb2⟩)
  · have HB2 := Lib.hid (below_then HB1.out hb2)
    have HG2 := Lib.hid ((hb2.block _ (lt_of_block HG1.out)).trans HG1.out)
    obtain ⟨hm2, hsd⟩ := super_dec HW.out hd2
    have HEx := Lib.hid (fun W => Encode_yes (fP s) (fI s) (fB s) hm2 (decide (fH s = 1)) W)
    rw [hsd] at HEx
    have hl8 : s.length = 8 := by rw [← hsd]; rfl
    have hb3 := (Below.refl w2.heap.size w2).alloc (Nat.le_refl _) (.cells #[.int .i64 (fP s : Nat), .int .i64 (fI s : Nat), .int .i64 (fB s : Nat)] 23)
    have HB3 := Lib.hid (below_then HB2.out hb3)
    have HG3 := Lib.hid ((hb3.block _ (lt_of_block HG2.out)).trans HG2.out)
    have HL8 := Lib.hid hl8
    unfold gv at HEx ⊢
    clear hb2 hb3 hm2 hsd hd2
    rw [hl8] at HR ⊢
    clear hl8
    generalize fP s = P2 at *
    generalize fI s = I2 at *
    generalize fB s = B2 at *
    generalize decide (fH s = 1) = H2 at *
    go_wp2_with fail
    refine (HEx.out _).mono ?_
    rintro e w3 ⟨A3, c3, rfl, ho3, hb3⟩
    have HB4 := Lib.hid (below_then HB3.out hb3)
    have HG4 := Lib.hid ((hb3.block _ (lt_of_block HG3.out)).trans HG3.out)
    have HR3 := Lib.hid (Rd.of_own ho3)
    clear hb3 ho3
    go_wp2_with fail
    refine (sameW_yes _ _ s 8 HL8.out _ HR3.out (HR.out.below HB4.out)).mono ?_
    rintro e w4 ⟨rfl, hb4⟩
    have HBk := Lib.hid (below_then HB4.out hb4)
    have HGk := Lib.hid ((hb4.block _ (lt_of_block HG4.out)).trans HG4.out)
    obtain ⟨a0, a1, a2, _, _, _⟩ := blk3 HGk.out
    clear hb4
    go_wp2_with fail
    refine (Encode_any P I B high _).mono ?_
    rintro e w5 (⟨_, rfl, hb5⟩ | ⟨p, i, b, rfl, rfl, rfl, hm, A5, c5, rfl, ho5, hb5⟩)
    · have HB5 := Lib.hid (below_then HBk.out hb5)
      clear hb5 a0 a1 a2
      go_wp2_with fail
      refine (HA.out _ HB5.out).mono ?_
      rintro e w6 ⟨rfl, hb6⟩
      have HB6 := Lib.hid (below_then HB5.out hb6)
      clear hb6
      go_wp2
      go_ret
      exact ⟨rfl, HB6.out⟩
    · have HB5 := Lib.hid (below_then HBk.out hb5)
      have HG5 := Lib.hid ((hb5.block _ (lt_of_block HGk.out)).trans HGk.out)
      have HM := Lib.hid hm
      obtain ⟨g5, cap5, hv5, hg5, hlt5⟩ := World.ownsRow.form (n := 8) ho5 (by omega)
      injection hv5 with hA5 _ hc5
      subst hA5
      subst hc5
      have hg5' : w.heap.size ≤ g5 := Nat.le_trans HBk.out.size hg5
      have HO5 := Lib.hid (own_mono ho5 HBk.out.size)
      have HR5 := Lib.hid (Rd.of_own ho5)
      have hp : p < 65536 := by have := hm.2.1; omega
      have hi : i < 65536 := by have := hm.2.2.2.1; omega
      have hbl : b < 65536 := by have := hm.2.2.2.2.2; omega
      have HWs := Lib.hid (sealed_wd (superL_wd hp hi hbl high))
      have HDec := Lib.hid (fun W v (hL : Laid W) (hr : Rd W v 8 (u64s (sealed (superL p i b high)))) => Decode_enc p i b hm high v W hL hr)
      have HTn := Lib.hid (fun K t ht hK => dec_turned hm high K t ht hK)
      clear hb5 ho5 a0 a1 a2 hm hg5 hlt5 hp hi hbl
      go_wp2_with (at_builtin; refine copy64 rfl (.const (.slice none 0 0)) (.tmp 65) rfl rfl _ (sealed (superL p i b high)) 8 rfl rfl HR5.out (by omega) ?_; intro A6 c6 w6 hown6 hb6; have HR6 := Lib.hid (Rd.of_own hown6); have HB6 := Lib.hid (below_then HB5.out hb6); have HO6 := Lib.hid (own_below HO5.out hb6); have HG6 := Lib.hid ((hb6.block _ (lt_of_block HG5.out)).trans HG5.out); clear hown6 hb6)
      refine (HDec.out _ _ (HG.out.below HB6.out) HR6.out).mono ?_
      rintro e w7 ⟨rfl, hb7⟩
      have hg7 := (hb7.block _ (lt_of_block HG6.out)).trans HG6.out
      obtain ⟨a0, a1, a2, _, _, _⟩ := blk3 hg7
      have hlt7 := lt_of_block hg7
      have hb8 := (Below.refl w7.heap.size w7).alloc (Nat.le_refl _) (.cells #[.int .i64 (p : Nat), .int .i64 (i : Nat), .int .i64 (b : Nat)] 23)
      have HB8 := Lib.hid (below_then (below_then HB6.out hb7) hb8)
      have HO8 := Lib.hid (own_below (own_below HO6.out hb7) hb8)
      clear hb7 hb8 hg7
      go_wp2
      go_loopw [22] (fun q wr => ∃ j : Nat, j ≤ 32 ∧ q = .int .i64 j ∧ wr.ownsRow w.heap.size 42 1 (.slice (some ⟨g5, 0, none⟩) 8 c5) 8 (u64s (turnsTo (sealed (superL p i b high)) K turns j)) ∧ Below w.heap.size w wr) (fun q _ => 32 - (intOf q).toNat)
      case atStart => exact ⟨0, Nat.zero_le _, rfl, HO8.out, HB8.out⟩
      case round =>
        obtain ⟨j, hj, rfl, hown, hbel⟩ := hrel
        clear a0 a1 a2 hlt7
        have hlen : (turnsTo (sealed (superL p i b high)) K turns j).length = 8 := by rw [turnsTo_length]; rfl
        have hwd := turnsTo_wd HWs.out K turns j
        by_cases hlt : j < 32
        · have hsucc : turnsTo (sealed (superL p i b high)) K turns (j + 1) = if turns / 2 ^ j % 2 = 1 then turn (turnsTo (sealed (superL p i b high)) K turns j) (K + j) else turnsTo (sealed (superL p i b high)) K turns j := rfl
          generalize turnsTo (sealed (superL p i b high)) K turns j = y at *
          have Hsucc := Lib.hid hsucc
          have hq : (K + j) / 64 < y.length := by rw [hlen]; omega
          have hz := hown.cellAt ((K + j) / 64) (by omega)
          rw [u64s_at hq] at hz
          have hyd : y.getD ((K + j) / 64) 0 = y[(K + j) / 64] := by simp [List.getD, hq]
          have hyq : y[(K + j) / 64] < 18446744073709551616 := hwd _ (List.getElem_mem hq)
          generalize y[(K + j) / 64] = z at *
          have Hyd := Lib.hid hyd
          have hf := hown.frozenAt ((K + j) / 64)
          have hqi : ((K : Int) + (j : Int)) / 64 < 8 := by omega
          have hqn : (K + j) / 64 < 8 := by omega
          have Hown := Lib.hid hown
          have Hbel := Lib.hid hbel
          clear hsucc hyd hown hbel hlen hwd hq
          by_cases hbit : turns / 2 ^ j % 2 = 1
          · have Hbit := Lib.hid hbit
            have hbb : (((turns : Int) / 2 ^ j).tmod 2 == 1) = true := by
              rw [div_pow, beq_iff_eq]
              show (((turns / 2 ^ j % 2 : Nat) : Int)) = 1
              omega
            clear hbit
            go_wp2_with fail
            go_roundw
            case rel =>
              refine ⟨j + 1, by omega, by go_num, ?_, ?_⟩
              · rw [xor_one z _ hyq (Nat.mod_lt _ (by decide))]
                have h7 := (Hown.out.stored ((K + j) / 64) (.int .u64 ((z ^^^ 2 ^ ((K + j) % 64) : Nat) : Int))).1
                rw [u64s_setAt] at h7
                rw [Hsucc.out, if_pos Hbit.out]
                unfold turn
                rw [Hyd.out]
                exact h7
              · exact Hbel.out.setCell (p := ⟨g5, (K + j) / 64, none⟩) hg5' _
            case measure => simp [intOf]; omega
          · have Hbit := Lib.hid hbit
            have hbb : (((turns : Int) / 2 ^ j).tmod 2 == 1) = false := by
              rw [div_pow, beq_eq_false_iff_ne]
              show ¬ (((turns / 2 ^ j % 2 : Nat) : Int)) = 1
              omega
            clear hbit
            go_wp2_with fail
            go_roundw
            case rel =>
              refine ⟨j + 1, by omega, by go_num, ?_, Hbel.out⟩
              rw [Hsucc.out, if_neg Hbit.out]
              exact Hown.out
            case measure => simp [intOf]; omega
        · obtain rfl : j = 32 := by omega
          have hdt := HTn.out K turns ht (by omega)
          generalize turnsTo (sealed (superL p i b high)) K turns 32 = y at *
          have Hdt := Lib.hid hdt
          have HDy := Lib.hid (Decode_any (.slice (some ⟨g5, 0, none⟩) 8 c5) y wr hwd (by rw [hlen]; decide) (by rw [hlen]; exact Rd.of_own hown) (HG.out.below hbel))
          have HBy := Lib.hid hbel
          clear hdt hown hwd hlen hbel
          by_cases h0 : turns = 0
          · have hz0 : ((turns : Int) == 0) = true := by simp; omega
            have Hd0 := Lib.hid (Hdt.out.2 h0)
            clear h0
            go_wp2_with fail
            refine HDy.out.mono ?_
            rintro e w8 (⟨_, rfl, hb8⟩ | ⟨hd8, _⟩)
            case inr => exact (hd8 Hd0.out).elim
            have HB9 := Lib.hid (below_then HBy.out hb8)
            unfold gv
            clear hb8
            go_wp2_with fail
            refine (HA.out _ HB9.out).mono ?_
            rintro e w9 ⟨rfl, hb9⟩
            have HB10 := Lib.hid (below_then HB9.out hb9)
            clear hb9
            go_wp2
            go_ret
            exact ⟨rfl, HB10.out⟩
          · have hz0 : ((turns : Int) == 0) = false := by simp; omega
            have Hd0 := Lib.hid (fun h => h0 (Hdt.out.1 h))
            clear h0
            go_wp2_with fail
            refine HDy.out.mono ?_
            rintro e w8 (⟨hd8, _⟩ | ⟨_, rfl, hb8⟩)
            case inl => exact (Hd0.out hd8).elim
            have HB9 := Lib.hid (below_then HBy.out hb8)
            unfold gv
            generalize decAt y = d at *
            clear hb8
            go_wp2_with fail
            refine (HA.out _ HB9.out).mono ?_
            rintro e w9 ⟨rfl, hb9⟩
            have HB10 := Lib.hid (below_then HB9.out hb9)
            clear hb9
            go_wp2
            go_ret
            exact ⟨rfl, HB10.out⟩
  · have hb3 := (Below.refl w2.heap.size w2).alloc (Nat.le_refl _) (.cells #[.int .i64 0, .int .i64 0, .int .i64 0] 23)
    have HG2 := (hb2.block _ (lt_of_block HG1.out)).trans HG1.out
    have HBk := Lib.hid (below_then (below_then HB1.out hb2) hb3)
    have HGk := Lib.hid ((hb3.block _ (lt_of_block HG2)).trans HG2)
    obtain ⟨a0, a1, a2, _, _, _⟩ := blk3 HG2
    have hltk := lt_of_block HG2
    unfold gv
    generalize decAt s = d2 at *
    clear hb2 hb3 HG2 hd2
    go_wp2_with fail
    refine (Encode_any P I B high _).mono ?_
    rintro e w5 (⟨_, rfl, hb5⟩ | ⟨p, i, b, rfl, rfl, rfl, hm, A5, c5, rfl, ho5, hb5⟩)
    · have HB5 := Lib.hid (below_then HBk.out hb5)
      clear hb5 a0 a1 a2
      go_wp2_with fail
      refine (HA.out _ HB5.out).mono ?_
      rintro e w6 ⟨rfl, hb6⟩
      have HB6 := Lib.hid (below_then HB5.out hb6)
      clear hb6
      go_wp2
      go_ret
      exact ⟨rfl, HB6.out⟩
    · have HB5 := Lib.hid (below_then HBk.out hb5)
      have HG5 := Lib.hid ((hb5.block _ (lt_of_block HGk.out)).trans HGk.out)
      have HM := Lib.hid hm
      obtain ⟨g5, cap5, hv5, hg5, hlt5⟩ := World.ownsRow.form (n := 8) ho5 (by omega)
      injection hv5 with hA5 _ hc5
      subst hA5
      subst hc5
      have hg5' : w.heap.size ≤ g5 := Nat.le_trans HBk.out.size hg5
      have HO5 := Lib.hid (own_mono ho5 HBk.out.size)
      have HR5 := Lib.hid (Rd.of_own ho5)
      have hp : p < 65536 := by have := hm.2.1; omega
      have hi : i < 65536 := by have := hm.2.2.2.1; omega
      have hbl : b < 65536 := by have := hm.2.2.2.2.2; omega
      have HWs := Lib.hid (sealed_wd (superL_wd hp hi hbl high))
      have HDec := Lib.hid (fun W v (hL : Laid W) (hr : Rd W v 8 (u64s (sealed (superL p i b high)))) => Decode_enc p i b hm high v W hL hr)
      have HTn := Lib.hid (fun K t ht hK => dec_turned hm high K t ht hK)
      clear hb5 ho5 a0 a1 a2 hm hg5 hlt5 hp hi hbl
      go_wp2_with (at_builtin; refine copy64 rfl (.const (.slice none 0 0)) (.tmp 65) rfl rfl _ (sealed (superL p i b high)) 8 rfl rfl HR5.out (by omega) ?_; intro A6 c6 w6 hown6 hb6; have HR6 := Lib.hid (Rd.of_own hown6); have HB6 := Lib.hid (below_then HB5.out hb6); have HO6 := Lib.hid (own_below HO5.out hb6); have HG6 := Lib.hid ((hb6.block _ (lt_of_block HG5.out)).trans HG5.out); clear hown6 hb6)
      refine (HDec.out _ _ (HG.out.below HB6.out) HR6.out).mono ?_
      rintro e w7 ⟨rfl, hb7⟩
      have hg7 := (hb7.block _ (lt_of_block HG6.out)).trans HG6.out
      obtain ⟨a0, a1, a2, _, _, _⟩ := blk3 hg7
      have hlt7 := lt_of_block hg7
      have hb8 := (Below.refl w7.heap.size w7).alloc (Nat.le_refl _) (.cells #[.int .i64 (p : Nat), .int .i64 (i : Nat), .int .i64 (b : Nat)] 23)
      have HB8 := Lib.hid (below_then (below_then HB6.out hb7) hb8)
      have HO8 := Lib.hid (own_below (own_below HO6.out hb7) hb8)
      clear hb7 hb8 hg7
      go_wp2
      go_loopw [22] (fun q wr => ∃ j : Nat, j ≤ 32 ∧ q = .int .i64 j ∧ wr.ownsRow w.heap.size 42 1 (.slice (some ⟨g5, 0, none⟩) 8 c5) 8 (u64s (turnsTo (sealed (superL p i b high)) K turns j)) ∧ Below w.heap.size w wr) (fun q _ => 32 - (intOf q).toNat)
      case atStart => exact ⟨0, Nat.zero_le _, rfl, HO8.out, HB8.out⟩
      case round =>
        obtain ⟨j, hj, rfl, hown, hbel⟩ := hrel
        clear a0 a1 a2 hlt7
        have hlen : (turnsTo (sealed (superL p i b high)) K turns j).length = 8 := by rw [turnsTo_length]; rfl
        have hwd := turnsTo_wd HWs.out K turns j
        by_cases hlt : j < 32
        · have hsucc : turnsTo (sealed (superL p i b high)) K turns (j + 1) = if turns / 2 ^ j % 2 = 1 then turn (turnsTo (sealed (superL p i b high)) K turns j) (K + j) else turnsTo (sealed (superL p i b high)) K turns j := rfl
          generalize turnsTo (sealed (superL p i b high)) K turns j = y at *
          have Hsucc := Lib.hid hsucc
          have hq : (K + j) / 64 < y.length := by rw [hlen]; omega
          have hz := hown.cellAt ((K + j) / 64) (by omega)
          rw [u64s_at hq] at hz
          have hyd : y.getD ((K + j) / 64) 0 = y[(K + j) / 64] := by simp [List.getD, hq]
          have hyq : y[(K + j) / 64] < 18446744073709551616 := hwd _ (List.getElem_mem hq)
          generalize y[(K + j) / 64] = z at *
          have Hyd := Lib.hid hyd
          have hf := hown.frozenAt ((K + j) / 64)
          have hqi : ((K : Int) + (j : Int)) / 64 < 8 := by omega
          have hqn : (K + j) / 64 < 8 := by omega
          have Hown := Lib.hid hown
          have Hbel := Lib.hid hbel
          clear hsucc hyd hown hbel hlen hwd hq
          by_cases hbit : turns / 2 ^ j % 2 = 1
          · have Hbit := Lib.hid hbit
            have hbb : (((turns : Int) / 2 ^ j).tmod 2 == 1) = true := by
              rw [div_pow, beq_iff_eq]
              show (((turns / 2 ^ j % 2 : Nat) : Int)) = 1
              omega
            clear hbit
            go_wp2_with fail
            go_roundw
            case rel =>
              refine ⟨j + 1, by omega, by go_num, ?_, ?_⟩
              · rw [xor_one z _ hyq (Nat.mod_lt _ (by decide))]
                have h7 := (Hown.out.stored ((K + j) / 64) (.int .u64 ((z ^^^ 2 ^ ((K + j) % 64) : Nat) : Int))).1
                rw [u64s_setAt] at h7
                rw [Hsucc.out, if_pos Hbit.out]
                unfold turn
                rw [Hyd.out]
                exact h7
              · exact Hbel.out.setCell (p := ⟨g5, (K + j) / 64, none⟩) hg5' _
            case measure => simp [intOf]; omega
          · have Hbit := Lib.hid hbit
            have hbb : (((turns : Int) / 2 ^ j).tmod 2 == 1) = false := by
              rw [div_pow, beq_eq_false_iff_ne]
              show ¬ (((turns / 2 ^ j % 2 : Nat) : Int)) = 1
              omega
            clear hbit
            go_wp2_with fail
            go_roundw
            case rel =>
              refine ⟨j + 1, by omega, by go_num, ?_, Hbel.out⟩
              rw [Hsucc.out, if_neg Hbit.out]
              exact Hown.out
            case measure => simp [intOf]; omega
        · obtain rfl : j = 32 := by omega
          have hdt := HTn.out K turns ht (by omega)
          generalize turnsTo (sealed (superL p i b high)) K turns 32 = y at *
          have Hdt := Lib.hid hdt
          have HDy := Lib.hid (Decode_any (.slice (some ⟨g5, 0, none⟩) 8 c5) y wr hwd (by rw [hlen]; decide) (by rw [hlen]; exact Rd.of_own hown) (HG.out.below hbel))
          have HBy := Lib.hid hbel
          clear hdt hown hwd hlen hbel
          by_cases h0 : turns = 0
          · have hz0 : ((turns : Int) == 0) = true := by simp; omega
            have Hd0 := Lib.hid (Hdt.out.2 h0)
            clear h0
            go_wp2_with fail
            refine HDy.out.mono ?_
            rintro e w8 (⟨_, rfl, hb8⟩ | ⟨hd8, _⟩)
            case inr => exact (hd8 Hd0.out).elim
            have HB9 := Lib.hid (below_then HBy.out hb8)
            unfold gv
            clear hb8
            go_wp2_with fail
            refine (HA.out _ HB9.out).mono ?_
            rintro e w9 ⟨rfl, hb9⟩
            have HB10 := Lib.hid (below_then HB9.out hb9)
            clear hb9
            go_wp2
            go_ret
            exact ⟨rfl, HB10.out⟩
          · have hz0 : ((turns : Int) == 0) = false := by simp; omega
            have Hd0 := Lib.hid (fun h => h0 (Hdt.out.1 h))
            clear h0
            go_wp2_with fail
            refine HDy.out.mono ?_
            rintro e w8 (⟨hd8, _⟩ | ⟨_, rfl, hb8⟩)
            case inl => exact (Hd0.out hd8).elim
            have HB9 := Lib.hid (below_then HBy.out hb8)
            unfold gv
            generalize decAt y = d at *
            clear hb8
            go_wp2_with fail
            refine (HA.out _ HB9.out).mono ?_
            rintro e w9 ⟨rfl, hb9⟩
            have HB10 := Lib.hid (below_then HB9.out hb9)
            clear hb9
            go_wp2
            go_ret
            exact ⟨rfl, HB10.out⟩
end Go.Proofs.YtfmjhmgpnlmkkaaDoor
