/- parcloseref05.Decode. -/
import Derived.Test.YtfmjhmgpnlmkkaaDoorSuperG
import Derived.Test.YtfmjhmgpnlmkkaaDoorGeomMay
namespace Go.Proofs.YtfmjhmgpnlmkkaaDoor
open Go.RowKit
set_option linter.unusedVariables false

/-- a Fault's box -/
def FB (w : World) (H : Nat) (a k : Int) : Prop := w.heap[H]? = some (.cells #[.int .i64 a, .int .i64 k] 53 (0, 0))
theorem FB.cells {w : World} {H : Nat} {a k : Int} (h : FB w H a k) : w.cell? ⟨H, 0, none⟩ = some (.int .i64 a) ∧ w.cell? ⟨H, 1, none⟩ = some (.int .i64 k) ∧ w.frozen? ⟨H, 0, none⟩ = false ∧ w.frozen? ⟨H, 1, none⟩ = false := by
  unfold FB at h
  refine ⟨?_, ?_, ?_, ?_⟩ <;> simp [World.cell?, World.frozen?, h]
theorem FB.below {w w' : World} {H : Nat} {a k : Int} (h : FB w H a k) (hb : Below w.heap.size w w') : FB w' H a k := (hb.block H (Array.getElem?_eq_some_iff.1 h).1).trans h
/-- the two boxes of the call -/
structure TwoB (w wr : World) : Prop where
  geo : wr.heap[w.heap.size]? = some (.cells #[.int .i64 0, .int .i64 0, .int .i64 0] 23 (0, 0))
  flt : FB wr (w.heap.size + 1) 0 0
  bel : Below w.heap.size w wr
theorem TwoB.new (w : World) : TwoB w ((w.alloc (.cells #[.int .i64 0, .int .i64 0, .int .i64 0] 23)).alloc (.cells #[.int .i64 0, .int .i64 0] 53)) := by
  refine ⟨?_, ?_, ((Below.refl _ _).alloc (Nat.le_refl _) _).alloc (by simp) _⟩
  · rw [heap_alloc_old _ _ (by simp)]; exact heap_alloc_new w _
  · have := heap_alloc_new (w.alloc (.cells #[.int .i64 0, .int .i64 0, .int .i64 0] 23)) (.cells #[.int .i64 0, .int .i64 0] 53)
    simpa [FB] using this
theorem TwoB.below {w wr wr' : World} (h : TwoB w wr) (hb : Below wr.heap.size wr wr') : TwoB w wr' := ⟨(hb.block _ (lt_of_block h.geo)).trans h.geo, h.flt.below hb, below_then h.bel hb⟩
/-- all that is turned at the end -/
theorem set5B {w a : World} {u0 u1 u2 u3 u4 : Value} (h : Below w.heap.size w a) : Below w.heap.size w (((((a.setCell ⟨w.heap.size, 0, none⟩ u0).setCell ⟨w.heap.size, 1, none⟩ u1).setCell ⟨w.heap.size, 2, none⟩ u2).setCell ⟨w.heap.size + 1, 0, none⟩ u3).setCell ⟨w.heap.size + 1, 1, none⟩ u4) :=
  ((set3B (k := 0) h).setCell (p := ⟨w.heap.size + 1, 0, none⟩) (Nat.le_succ _) _).setCell (p := ⟨w.heap.size + 1, 1, none⟩) (Nat.le_succ _) _
/-- what parcloseref05.Decode answers -/
def RefDec (w : World) (s : List Nat) (e : Ending) (w' : World) : Prop :=
  (decAt s = -1 ∧ e = .returned (.tuple #[gv (fP s : Nat) (fI s : Nat) (fB s : Nat), .bool (decide (fH s = 1)), .agg #[.int .i64 0, .int .i64 0]]) ∧ Below w.heap.size w w') ∨
  (decAt s ≠ -1 ∧ e = .returned (.tuple #[gv 0 0 0, .bool false, .agg #[.int .i64 (decAt s), .int .i64 7]]) ∧ Below w.heap.size w w')

set_option maxRecDepth 100000 in
set_option maxHeartbeats 16000000 in
theorem refDecode_any (v : Value) (s : List Nat) (w : World) (hw : ∀ x ∈ s, x < 18446744073709551616) (hl : s.length ≤ 65536) (hr : Rd w v s.length (u64s s)) :
    Calls Tryd.prog 23 #[v] w (RefDec w s) := by
  have HR := Lib.hid hr
  have HW := Lib.hid hw
  obtain ⟨A, c, rfl, h1, h2, h3⟩ := hr
  unfold maxLen at h2
  clear h3 hw
  have HT0 := Lib.hid (TwoB.new w)
  by_cases h8 : s.length = 8
  case neg =>
    have hd : ((s.length : Int) != 8) = true := by simp; omega
    have HD := Lib.hid (dec_len h8)
    clear h8
    go_enter Tryd.func23, Tryd.ntmps23
    go_wp2
    go_quiet (fail)
    go_wp2_with fail
    refine (form_any 0 _).mono ?_
    rintro e w2 ⟨rfl, hb2⟩
    have ht2 := (HT0.out.below (below_drewN (Below.refl _ _) _)).below hb2
    have HT2 := Lib.hid ht2
    obtain ⟨g0, g1, g2, e0, e1, e2⟩ := blk3 ht2.geo
    obtain ⟨k0, k1, f0, f1⟩ := ht2.flt.cells
    clear hb2 ht2
    go_wp2
    refine bodyPost_ret (v := .tuple #[gv 0 0 0, .bool false, .agg #[.int .i64 0, .int .i64 7]]) (by unfold results gv; go_simp) rfl ?_
    refine .inr ⟨by rw [HD.out]; decide, by rw [HD.out], ?_⟩
    exact set5B HT2.out.bel
  have H8 := Lib.hid h8
  have h0 : 0 < s.length := by omega
  have h1' : 1 < s.length := by omega
  obtain ⟨b, o, rfl, q0⟩ := HR.out.at_ (u64s_at (l := s) (k := 0) h0)
  obtain ⟨b', o', hA, q1⟩ := HR.out.at_ (u64s_at (l := s) (k := 1) h1')
  injection hA with hA
  injection hA with e1 e2
  subst e1; subst e2
  rw [Nat.add_zero] at q0
  have hblk := World.block_lt_of_cell? _ _ q0
  have hg0 : s.getD 0 0 = s[0] := by simp [List.getD, h0]
  have hg1 : s.getD 1 0 = s[1] := by simp [List.getD, h1']
  have hx1 := HW.out _ (List.getElem_mem h1')
  generalize s[0] = x0 at *
  generalize s[1] = x1 at *
  have HG0 := Lib.hid hg0
  have HG1 := Lib.hid hg1
  rw [h8] at HR h1 ⊢
  clear h8 h0 h1' hg0 hg1
  have HPk := Lib.hid (fun W => refPackM_any W)
  go_enter Tryd.func23, Tryd.ntmps23
  go_wp2
  apply cut_region (fun w' => TwoB w w')
  case h1 =>
    go_region_with (go_at_call 22; refine (HPk.out _).mono ?_; rintro e wN ⟨gN, cN, rfl, _, hpN, hbN⟩; have kb : wN.cell? ⟨b, o, none⟩ = some (.int .u64 (x0 : Nat)) := (hbN.cell (by show b < _; simp; omega)).trans ((HT0.out.bel.cell hblk).trans q0))
    all_goals exact ⟨⟨gN, cN, rfl⟩, (HT0.out.below (Below.refl _ _).drew).below hbN⟩
  intro gN cN wN hF
  go_simp
  have HTN := Lib.hid hF
  obtain ⟨g0, g1, g2, e0, e1, e2⟩ := blk3 hF.geo
  obtain ⟨k0, k1, f0, f1⟩ := hF.flt.cells
  clear hF
  by_cases hm : x0 = magicW
  case neg =>
    have hd : ((x0 : Int) != (magicW : Int)) = true := by simp; omega
    have HD := Lib.hid (dec_magic (s := s) (by rw [HG0.out]; exact hm))
    clear hm g0 g1 g2 e0 e1 e2 k0 k1 f0 f1
    go_wp2_with fail
    refine (form_any 0 _).mono ?_
    rintro e w2 ⟨rfl, hb2⟩
    have ht2 := HTN.out.below hb2
    have HT2 := Lib.hid ht2
    obtain ⟨g0, g1, g2, e0, e1, e2⟩ := blk3 ht2.geo
    obtain ⟨k0, k1, f0, f1⟩ := ht2.flt.cells
    clear hb2 ht2
    go_wp2
    refine bodyPost_ret (v := .tuple #[gv 0 0 0, .bool false, .agg #[.int .i64 0, .int .i64 7]]) (by unfold results gv; go_simp) rfl ?_
    refine .inr ⟨by rw [HD.out]; decide, by rw [HD.out], ?_⟩
    exact set5B HT2.out.bel
  have hd : ((x0 : Int) != (magicW : Int)) = false := by simp; omega
  have HM := Lib.hid (show s.getD 0 0 = magicW by rw [HG0.out]; exact hm)
  have HOp := Lib.hid (refOpen_any (.slice (some ⟨b, o, none⟩) 8 c) s wN (by rw [H8.out]; exact HR.out.below HTN.out.bel) HW.out hl)
  clear hm g0 g1 g2 e0 e1 e2 k0 k1 f0 f1
  by_cases ho : opens s = true
  case neg =>
    have HD := Lib.hid (dec_open H8.out HM.out (by simpa using ho))
    have Ho := Lib.hid ho
    clear ho
    go_wp2_with fail
    refine HOp.out.mono fun e w2 hh => ?_
    obtain ⟨rfl, hb2⟩ := hh.no Ho.out
    have HT1 := Lib.hid (HTN.out.below hb2)
    clear hb2 hh
    go_wp2_with fail
    refine (form_any 7 _).mono ?_
    rintro e w3 ⟨rfl, hb2⟩
    have ht2 := HT1.out.below hb2
    have HT2 := Lib.hid ht2
    obtain ⟨g0, g1, g2, e0, e1, e2⟩ := blk3 ht2.geo
    obtain ⟨k0, k1, f0, f1⟩ := ht2.flt.cells
    clear hb2 ht2
    go_wp2
    refine bodyPost_ret (v := .tuple #[gv 0 0 0, .bool false, .agg #[.int .i64 7, .int .i64 7]]) (by unfold results gv; go_simp) rfl ?_
    refine .inr ⟨by rw [HD.out]; decide, by rw [HD.out], ?_⟩
    exact set5B HT2.out.bel
  have Ho := Lib.hid ho
  clear ho
  go_wp2_with fail
  refine HOp.out.mono fun e w2 hh => ?_
  obtain ⟨A2, c2, rfl, _, hb2⟩ := hh.yes Ho.out
  have HT2 := Lib.hid (HTN.out.below hb2)
  have c21 := (HT2.out.bel.cell hblk).trans q1
  clear hb2 hh HOp
  rw [H8.out]
  have hblk2 : b < w2.heap.size := Nat.lt_of_lt_of_le hblk HT2.out.bel.size
  have eP : ((x1 : Int) % 65536) = ((fP s : Nat) : Int) := by unfold fP getW; rw [HG1.out]; omega
  have eI : ((x1 : Int) / 65536 % 65536) = ((fI s : Nat) : Int) := by unfold fI getW; rw [HG1.out]; omega
  have eB : ((x1 : Int) / 4294967296 % 65536) = ((fB s : Nat) : Int) := by unfold fB getW; rw [HG1.out]; omega
  have eH : ((x1 : Int) / 281474976710656) = ((fH s : Nat) : Int) := by unfold fH getW; rw [HG1.out]; omega
  have hPl := getW_16 (s.getD 1 0) 0
  have hIl := getW_16 (s.getD 1 0) 16
  have hBl := getW_16 (s.getD 1 0) 32
  have hHl := getW_16 (s.getD 1 0) 48
  obtain ⟨P, hP⟩ : ∃ P, P = fP s := ⟨_, rfl⟩
  obtain ⟨I, hI⟩ : ∃ I, I = fI s := ⟨_, rfl⟩
  obtain ⟨B, hB⟩ : ∃ B, B = fB s := ⟨_, rfl⟩
  obtain ⟨H, hH⟩ : ∃ H, H = fH s := ⟨_, rfl⟩
  rw [← hP] at eP
  rw [← hI] at eI
  rw [← hB] at eB
  rw [← hH] at eH
  have hPl' : P < 65536 := by rw [hP]; exact hPl
  have hIl' : I < 65536 := by rw [hI]; exact hIl
  have hBl' : B < 65536 := by rw [hB]; exact hBl
  have hHl' : H < 65536 := by rw [hH]; exact hHl
  have HE := Lib.hid (And.intro hP.symm (And.intro hI.symm (And.intro hB.symm hH.symm)))
  clear hP hI hB hH hPl hIl hBl hHl
  go_wp2
  go_region
  obtain ⟨w6, hw6⟩ : ∃ w6, w6 = (w2.alloc (.cells #[.int .i64 (P : Nat), .int .i64 (I : Nat), .int .i64 (B : Nat)] 23)).drew := ⟨_, rfl⟩
  have ht6 : TwoB w w6 := by rw [hw6]; exact HT2.out.below ((Below.refl _ _).alloc (Nat.le_refl _) _).drew
  have hg6 : w6.heap[w2.heap.size]? = some (.cells #[.int .i64 (P : Nat), .int .i64 (I : Nat), .int .i64 (B : Nat)] 23 (0, 0)) := by rw [hw6]; exact heap_alloc_new w2 _
  have c61 : w6.cell? ⟨b, o + 1, none⟩ = some (.int .u64 (x1 : Nat)) := (ht6.bel.cell hblk).trans q1
  have hblk6 : b < w6.heap.size := Nat.lt_of_lt_of_le hblk ht6.bel.size
  have hn1 : ¬ w2.heap.size = w.heap.size := by have := lt_of_block HT2.out.geo; omega
  have hn2 : ¬ w2.heap.size = w.heap.size + 1 := by have := lt_of_block HT2.out.flt; omega
  rw [← hw6]
  clear hw6 c21 hblk2
  generalize w2.heap.size = gg at *
  have HT6 := Lib.hid ht6
  have HG6 := Lib.hid hg6
  obtain ⟨a0, a1, a2, _, _, _⟩ := blk3 hg6
  clear ht6 hg6 HT2
  obtain ⟨eP', eI', eB', eH'⟩ := HE.out
  by_cases hH1 : H ≤ 1
  case neg =>
    have hd1 : decide ((1 : Int) < (H : Int)) = true := by simp; omega
    have HD := Lib.hid (dec_word H8.out HM.out Ho.out (fun h => hH1 (by have := h.2; rw [eH'] at this; exact this)))
    clear hH1 eP' eI' eB' eH'
    go_wp2_with fail
    refine (form_any 1 _).mono ?_
    rintro e w9 ⟨rfl, hb9⟩
    have ht9 := HT6.out.below hb9
    have HT9 := Lib.hid ht9
    obtain ⟨g0, g1, g2, e0, e1, e2⟩ := blk3 ht9.geo
    obtain ⟨k0, k1, f0, f1⟩ := ht9.flt.cells
    clear hb9 ht9
    go_wp2
    refine bodyPost_ret (v := .tuple #[gv 0 0 0, .bool false, .agg #[.int .i64 1, .int .i64 7]]) (by unfold results gv; go_simp) rfl ?_
    refine .inr ⟨by rw [HD.out]; decide, by rw [HD.out], ?_⟩
    exact set5B HT9.out.bel
  have hd1 : decide ((1 : Int) < (H : Int)) = false := by simp; omega
  by_cases hmay : MayG (P : Nat) (I : Nat) (B : Nat)
  case neg =>
    have HD := Lib.hid (dec_word H8.out HM.out Ho.out (fun h => hmay (by have := h.1; rw [eP', eI', eB'] at this; exact this)))
    have HMy := Lib.hid (fun W => refMay_no (P : Nat) (I : Nat) (B : Nat) hmay W)
    clear hmay hH1 eP' eI' eB' eH'
    go_wp2_with fail
    refine (HMy.out _).mono ?_
    rintro e w7 ⟨rfl, hb7⟩
    have HT7 := Lib.hid (HT6.out.below hb7)
    clear hb7
    go_wp2_with fail
    refine (form_any 1 _).mono ?_
    rintro e w9 ⟨rfl, hb9⟩
    have ht9 := HT7.out.below hb9
    have HT9 := Lib.hid ht9
    obtain ⟨g0, g1, g2, e0, e1, e2⟩ := blk3 ht9.geo
    obtain ⟨k0, k1, f0, f1⟩ := ht9.flt.cells
    clear hb9 ht9
    go_wp2
    refine bodyPost_ret (v := .tuple #[gv 0 0 0, .bool false, .agg #[.int .i64 1, .int .i64 7]]) (by unfold results gv; go_simp) rfl ?_
    refine .inr ⟨by rw [HD.out]; decide, by rw [HD.out], ?_⟩
    exact set5B HT9.out.bel
  have HMy := Lib.hid (fun W => refMay_yes (P : Nat) (I : Nat) (B : Nat) hmay W)
  have HDt := Lib.hid (dec_tail H8.out HM.out Ho.out ⟨by rw [eP', eI', eB']; exact hmay, by rw [eH']; exact hH1⟩)
  clear hmay hH1 eP' eI' eB' eH'
  go_wp2_with fail
  refine (HMy.out _).mono ?_
  rintro e w7 ⟨rfl, hb7⟩
  have HT7 := Lib.hid (HT6.out.below hb7)
  have hg7 := (hb7.block _ (lt_of_block HG6.out)).trans HG6.out
  have c71 := (hb7.cell (p := ⟨b, o + 1, none⟩) hblk6).trans c61
  have HG7 := Lib.hid hg7
  clear hb7 a0 a1 a2 c61 hg7
  go_wp2
  go_loop [8] (fun i => ∃ j : Nat, 2 ≤ j ∧ j ≤ 7 ∧ i = .int .i64 j ∧ ∀ k, 2 ≤ k → k < j → s.getD k 0 = 0) (fun i => 7 - (intOf i).toNat)
  case atStart => exact ⟨2, by omega, by omega, rfl, fun k h1 h2 => by omega⟩
  case round =>
    obtain ⟨j, hj2, hj, rfl, hz⟩ := hrel
    have HZ := Lib.hid hz
    clear hz
    by_cases hlt : j < 7
    · have hjl : j < s.length := by rw [H8.out]; omega
      obtain ⟨b', o', hA, qj⟩ := (HR.out.below HT7.out.bel).at_ (u64s_at (l := s) (k := j) hjl)
      injection hA with hA
      injection hA with e1 e2
      subst e1; subst e2
      have hgj : s.getD j 0 = s[j] := by simp [List.getD, hjl]
      generalize s[j] = y at *
      have Hgj := Lib.hid hgj
      have hlt' : (j : Int) < 7 := by omega
      clear hgj hjl
      by_cases hy : y = 0
      · subst hy
        have Hy := Lib.hid (show ∀ k, 2 ≤ k → k < j + 1 → s.getD k 0 = 0 from fun k k1 k2 => by
          rcases Nat.lt_or_ge k j with h3 | h3
          · exact HZ.out k k1 h3
          · obtain rfl : k = j := by omega
            exact Hgj.out)
        go_wp2
        go_round
        case rel => exact ⟨j + 1, by omega, by omega, by go_num, Hy.out⟩
        case measure => simp [intOf]; omega
      · have hy' : ((y : Int) != 0) = true := by simp; omega
        have HD := Lib.hid (HDt.out.trans (tail_at (by omega) hlt HZ.out (by rw [Hgj.out]; exact hy)))
        have Hj := Lib.hid (show (j : Int) ≠ -1 by omega)
        clear hy
        go_wp2_with fail
        refine (form_any j _).mono ?_
        rintro e w9 ⟨rfl, hb9⟩
        have ht9 := HT7.out.below hb9
        have HT9 := Lib.hid ht9
        obtain ⟨g0, g1, g2, e0, e1, e2⟩ := blk3 ht9.geo
        obtain ⟨k0, k1, f0, f1⟩ := ht9.flt.cells
        clear hb9 ht9
        go_wp2
        refine bodyPost_ret (v := .tuple #[gv 0 0 0, .bool false, .agg #[.int .i64 j, .int .i64 7]]) (by unfold results gv; go_simp) rfl ?_
        refine .inr ⟨by rw [HD.out]; exact Hj.out, by rw [HD.out], ?_⟩
        exact set5B HT9.out.bel
    · obtain rfl : j = 7 := by omega
      have HD := Lib.hid (HDt.out.trans (tail_none HZ.out))
      obtain ⟨g0, g1, g2, e0, e1, e2⟩ := blk3 HT7.out.geo
      obtain ⟨k0, k1, f0, f1⟩ := HT7.out.flt.cells
      obtain ⟨a0, a1, a2, _, _, _⟩ := blk3 HG7.out
      go_wp2
      go_region
      all_goals go_wp2
      all_goals refine bodyPost_ret (v := .tuple #[gv P I B, .bool ((H : Int) == 1), .agg #[.int .i64 0, .int .i64 0]]) (by unfold results gv; go_simp) rfl ?_
      all_goals refine .inl ⟨HD.out, ?_, ?_⟩
      all_goals first | exact (set5B HT7.out.bel).drew | exact set5B HT7.out.bel | rw [HE.out.1, HE.out.2.1, HE.out.2.2.1, HE.out.2.2.2, show ((H : Int) == 1) = decide (H = 1) by rw [Bool.eq_iff_iff]; simp; omega]
end Go.Proofs.YtfmjhmgpnlmkkaaDoor
