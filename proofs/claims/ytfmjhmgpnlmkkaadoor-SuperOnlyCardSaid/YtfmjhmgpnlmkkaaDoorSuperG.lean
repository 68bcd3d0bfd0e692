/- super.read. -/
import Derived.Test.YtfmjhmgpnlmkkaaDoorSuperF
namespace Go.Proofs.YtfmjhmgpnlmkkaaDoor
open Go.RowKit
set_option linter.unusedVariables false

/-- a region cut off from what follows -/
def CutQ (A : Nat → Nat → Act) (F : World → Prop) : Exit → Act → World → Prop
  | .normal, a, w => (∃ g k, a = A g k) ∧ F w
  | _, _, _ => False
theorem cut_region {P : Program} {c : Code} {Q : Exit → Act → World → Prop} {a : Act} {w : World} (F : World → Prop) {A : Nat → Nat → Act} (h1 : c.wp P (CutQ A F) a w) (h2 : ∀ g k w', F w' → Q .normal (A g k) w') : c.wp P Q a w :=
  Code.wp_mono (fun e a' w' h => by
    cases e with
    | normal =>
      obtain ⟨⟨g, k, rfl⟩, hf⟩ := h
      exact h2 g k w' hf
    | _ => exact h.elim) h1
theorem keepB2 {w a b : World} {p q : Addr} {u v : Value} (h : a.cell? p = some u ∧ a.cell? q = some v ∧ Below w.heap.size w a) (hb : Below a.heap.size a b) : b.cell? p = some u ∧ b.cell? q = some v ∧ Below w.heap.size w b :=
  ⟨(hb.cell (World.block_lt_of_cell? _ _ h.1)).trans h.1, (hb.cell (World.block_lt_of_cell? _ _ h.2.1)).trans h.2.1, below_then h.2.2 hb⟩

theorem PackG_any (w : World) :
    Calls Tryd.prog 16 #[.string ⟨#[112, 97, 114, 99, 108, 111, 115, 101]⟩] w fun e w' => ∃ g c, e = .returned (.slice (some ⟨g, 0, none⟩) 1 c) ∧ w'.cell? ⟨g, 0, none⟩ = some (.int .u64 (magicW : Nat)) ∧ Below w.heap.size w w' := by
  refine (PackM_any w).mono ?_
  rintro e w' ⟨rfl, ho, hb⟩
  exact ⟨_, _, rfl, ho.cellAt 0 (by decide), hb⟩
theorem set3B {w a : World} {k : Nat} {u0 u1 u2 : Value} (h : Below w.heap.size w a) : Below w.heap.size w (((a.setCell ⟨w.heap.size + k, 0, none⟩ u0).setCell ⟨w.heap.size + k, 1, none⟩ u1).setCell ⟨w.heap.size + k, 2, none⟩ u2) :=
  have hk : w.heap.size ≤ w.heap.size + k := Nat.le_add_right _ _
  ((h.setCell (p := ⟨w.heap.size + k, 0, none⟩) hk _).setCell (p := ⟨w.heap.size + k, 1, none⟩) hk _).setCell (p := ⟨w.heap.size + k, 2, none⟩) hk _

theorem geo_set {W : World} {b : Nat} {u0 u1 u2 : Value} {t : TypeId} (h : W.heap[b]? = some (.cells #[u0, u1, u2] t (0, 0))) (v0 v1 v2 : Value) : (((W.setCell ⟨b, 0, none⟩ v0).setCell ⟨b, 1, none⟩ v1).setCell ⟨b, 2, none⟩ v2).heap[b]? = some (.cells #[v0, v1, v2] t (0, 0)) := by
  have e1 := heap_setCell_same W b 0 _ _ v0 h
  have e2 := heap_setCell_same _ b 1 _ _ v1 e1
  have e3 := heap_setCell_same _ b 2 _ _ v2 e2
  rw [e3]
  rfl
theorem geo_other {W : World} {b k j : Nat} (v0 v1 v2 : Value) (h : k ≠ b) : (((W.setCell ⟨b, 0, none⟩ v0).setCell ⟨b, 1, none⟩ v1).setCell ⟨b, 2, none⟩ v2).cell? ⟨k, j, none⟩ = W.cell? ⟨k, j, none⟩ := by
  rw [World.cell?_setCell_other _ _ _ _ (by simp), World.cell?_setCell_other _ _ _ _ (by simp), World.cell?_setCell_other _ _ _ _ (by simp)]

set_option maxRecDepth 100000 in
set_option maxHeartbeats 16000000 in
theorem read_any (v : Value) (s : List Nat) (w : World) (hw : ∀ x ∈ s, x < 18446744073709551616) (hl : s.length ≤ 65536) (hr : Rd w v s.length (u64s s)) :
    Calls Tryd.prog 25 #[v] w (ReadSup w s) := by
  have HR := Lib.hid hr
  have HW := Lib.hid hw
  obtain ⟨A, c, rfl, h1, h2, h3⟩ := hr
  unfold maxLen at h2
  clear h3 hw
  have HWr := Lib.hid wrong_any
  have HB0 := Lib.hid (((Below.refl w.heap.size w).alloc (Nat.le_refl _) (.cells #[.slice A s.length c] 24)).alloc (by simp) (.cells #[.int .i64 0, .int .i64 0, .int .i64 0] 23))
  have HB00 := HB0
  by_cases h8 : s.length = 8
  case neg =>
    have hd : ((s.length : Int) != 8) = true := by simp; omega
    have HD := Lib.hid (dec_len h8)
    clear h8
    go_enter Tryd.func25, Tryd.ntmps25
    go_wp2
    go_quiet (fail)
    go_wp2
    go_region_with (go_at_call 36; refine (HWr.out _ _).mono ?_; rintro e w' ⟨rfl, rfl⟩)
    all_goals go_wp2
    all_goals refine bodyPost_ret (v := .tuple #[gv 0 0 0, .bool false, .iface 53 (.agg #[.int .i64 0, .int .i64 7])]) (by unfold results gv; go_simp) rfl ?_
    all_goals refine .inr ⟨by rw [HD.out]; decide, ⟨_, _, _, by rw [HD.out]⟩, ?_⟩
    all_goals exact set3B (below_drewN HB0.out _)
  have H8 := Lib.hid h8
  have h0 : 0 < s.length := by omega
  have h1' : 1 < s.length := by omega
  obtain ⟨b, o, rfl, q0⟩ := HR.out.at_ (u64s_at (l := s) (k := 0) h0)
  obtain ⟨b', o', hA, q1⟩ := HR.out.at_ (u64s_at (l := s) (k := 1) h1')
  injection hA with hA
  injection hA with e1 e2
  subst e1; subst e2
  rw [Nat.add_zero] at q0
  have hblk := World.block_lt_of_cell? _ _ q0
  have hg0 : s.getD 0 0 = s[0] := by simp [List.getD, h0]
  have hg1 : s.getD 1 0 = s[1] := by simp [List.getD, h1']
  have hx0 := HW.out _ (List.getElem_mem h0)
  have hx1 := HW.out _ (List.getElem_mem h1')
  generalize s[0] = x0 at *
  generalize s[1] = x1 at *
  have HG0 := Lib.hid hg0
  have HG1 := Lib.hid hg1
  rw [h8] at HR h1 HB0 HB00 ⊢
  clear h8 h0 h1' hg0 hg1
  have hPk := fun W => PackG_any W
  have HPk := Lib.hid hPk
  have hp0 : ((w.alloc (.cells #[.slice (some ⟨b, o, none⟩) 8 c] 24)).alloc (.cells #[.int .i64 0, .int .i64 0, .int .i64 0] 23)).cell? ⟨w.heap.size, 0, none⟩ = some (.slice (some ⟨b, o, none⟩) 8 c) := by simp
  have hge : ((w.alloc (.cells #[.slice (some ⟨b, o, none⟩) 8 c] 24)).alloc (.cells #[.int .i64 0, .int .i64 0, .int .i64 0] 23)).drew.heap[w.heap.size + 1]? = some (.cells #[.int .i64 0, .int .i64 0, .int .i64 0] 23 (0, 0)) := by
    have := heap_alloc_new (w.alloc (.cells #[.slice (some ⟨b, o, none⟩) 8 c] 24)) (.cells #[.int .i64 0, .int .i64 0, .int .i64 0] 23)
    rw [World.size_alloc] at this
    exact this
  clear hPk
  go_enter Tryd.func25, Tryd.ntmps25
  go_wp2
  apply cut_region (fun w' => Below w.heap.size w w' ∧ w'.heap[w.heap.size + 1]? = some (.cells #[.int .i64 0, .int .i64 0, .int .i64 0] 23 (0, 0)) ∧ w'.cell? ⟨w.heap.size, 0, none⟩ = some (.slice (some ⟨b, o, none⟩) 8 c))
  case h1 =>
    go_region_with (go_at_call 16; refine (HPk.out _).mono ?_; rintro e wN ⟨gN, cN, rfl, hpN, hbN⟩; have kb : wN.cell? ⟨b, o, none⟩ = some (.int .u64 (x0 : Nat)) := (hbN.cell (by show b < _; simp; omega)).trans (((HB00.out).cell hblk).trans q0); have kt : wN.cell? ⟨w.heap.size, 0, none⟩ = some (.slice (some ⟨b, o, none⟩) 8 c) := (hbN.cell (by show w.heap.size < _; simp; omega)).trans hp0)
    all_goals exact ⟨⟨gN, cN, rfl⟩, below_then HB00.out.drew hbN, (hbN.block (w.heap.size + 1) (by show w.heap.size + 1 < _; simp)).trans hge, kt⟩
  intro gN cN wN hF
  go_simp
  obtain ⟨hBN, hgN, cN0⟩ := hF
  have HBN := Lib.hid hBN
  have HGN := Lib.hid hgN
  obtain ⟨g0, g1, g2, e0, e1, e2⟩ := blk3 hgN
  clear hBN hgN
  by_cases hm : x0 = magicW
  case neg =>
    have hd : ((x0 : Int) != (magicW : Int)) = true := by simp; omega
    have HD := Lib.hid (dec_magic (s := s) (by rw [HG0.out]; exact hm))
    clear hm
    go_wp2
    go_region_with (go_at_call 36; refine (HWr.out _ _).mono ?_; rintro e w' ⟨rfl, rfl⟩)
    all_goals go_wp2
    all_goals refine bodyPost_ret (v := .tuple #[gv 0 0 0, .bool false, .iface 53 (.agg #[.int .i64 0, .int .i64 7])]) (by unfold results gv; go_simp) rfl ?_
    all_goals refine .inr ⟨by rw [HD.out]; decide, ⟨_, _, _, by rw [HD.out]⟩, ?_⟩
    all_goals exact (set3B HBN.out).drew
  have hd : ((x0 : Int) != (magicW : Int)) = false := by simp; omega
  have HM := Lib.hid (show s.getD 0 0 = magicW by rw [HG0.out]; exact hm)
  have HOp := Lib.hid (Open_any (.slice (some ⟨b, o, none⟩) 8 c) s wN (by rw [H8.out]; exact HR.out.below HBN.out) HW.out hl)
  clear hm
  by_cases ho : opens s = true
  case neg =>
    have HD := Lib.hid (dec_open H8.out HM.out (by simpa using ho))
    have Ho := Lib.hid ho
    clear ho
    go_wp2_with fail
    refine HOp.out.mono fun e w2 hh => ?_
    obtain ⟨rfl, hb2⟩ := hh.no Ho.out
    have HB2 := Lib.hid (below_then HBN.out hb2)
    have hg2 := (hb2.block _ (lt_of_block HGN.out)).trans HGN.out
    clear g0 g1 g2 e0 e1 e2 cN0 hb2 hh
    obtain ⟨g0, g1, g2, e0, e1, e2⟩ := blk3 hg2
    clear hg2
    go_wp2
    go_region_with (go_at_call 36; refine (HWr.out _ _).mono ?_; rintro e w' ⟨rfl, rfl⟩)
    all_goals go_wp2
    all_goals refine bodyPost_ret (v := .tuple #[gv 0 0 0, .bool false, .iface 53 (.agg #[.int .i64 7, .int .i64 7])]) (by unfold results gv; go_simp) rfl ?_
    all_goals refine .inr ⟨by rw [HD.out]; decide, ⟨_, _, _, by rw [HD.out]⟩, ?_⟩
    all_goals exact (set3B HB2.out).drew
  have Ho := Lib.hid ho
  clear ho
  go_wp2_with fail
  refine HOp.out.mono fun e w2 hh => ?_
  obtain ⟨A2, c2, rfl, _, hb2⟩ := hh.yes Ho.out
  have HB2 := Lib.hid (below_then HBN.out hb2)
  have HG2 := Lib.hid ((hb2.block _ (lt_of_block HGN.out)).trans HGN.out)
  have c20 := (hb2.cell (World.block_lt_of_cell? _ _ cN0)).trans cN0
  have c21 := (HB2.out.cell hblk).trans q1
  clear g0 g1 g2 e0 e1 e2 cN0 hb2 hh HOp
  rw [H8.out]
  have hF := fun (a n : Nat) (h1 : 1 ≤ n) (h2 : n ≤ 16) (h3 : a + n ≤ 64) (W : World) (k0 : W.cell? ⟨w.heap.size, 0, none⟩ = some (.slice (some ⟨b, o, none⟩) 8 c)) (k1 : W.cell? ⟨b, o + 1, none⟩ = some (.int .u64 (x1 : Nat))) => field_any a n h1 h2 h3 x1 hx1 w.heap.size b o 8 c W k0 k1 (by decide)
  have hf0 := hF 0 16 (by decide) (by decide) (by decide) w2 c20 c21
  have hf1 := hF 16 16 (by decide) (by decide) (by decide) w2 c20 c21
  have hf2 := hF 32 16 (by decide) (by decide) (by decide) w2 c20 c21
  have hf3 := fun W k0 k1 => hF 48 16 (by decide) (by decide) (by decide) W k0 k1
  have hf4 := fun W k0 k1 => hF 48 1 (by decide) (by decide) (by decide) W k0 k1
  have hh1 : getW x1 48 16 ≤ 1 → getW x1 48 1 = getW x1 48 16 := fun h => by
    unfold getW at *
    have : x1 / 2 ^ 48 < 65536 := by omega
    omega
  obtain ⟨P, hP⟩ : ∃ P, P = getW x1 0 16 := ⟨_, rfl⟩
  obtain ⟨I, hI⟩ : ∃ I, I = getW x1 16 16 := ⟨_, rfl⟩
  obtain ⟨B, hB⟩ : ∃ B, B = getW x1 32 16 := ⟨_, rfl⟩
  obtain ⟨H, hH⟩ : ∃ H, H = getW x1 48 16 := ⟨_, rfl⟩
  have hPl : P < 65536 := by rw [hP]; exact getW_16 _ _
  have hIl : I < 65536 := by rw [hI]; exact getW_16 _ _
  have hBl : B < 65536 := by rw [hB]; exact getW_16 _ _
  have hHl : H < 65536 := by rw [hH]; exact getW_16 _ _
  have eP : fP s = P := by unfold fP; rw [HG1.out, hP]
  have eI : fI s = I := by unfold fI; rw [HG1.out, hI]
  have eB : fB s = B := by unfold fB; rw [HG1.out, hB]
  have eH : fH s = H := by unfold fH; rw [HG1.out, hH]
  rw [← hP] at hf0
  rw [← hI] at hf1
  rw [← hB] at hf2
  rw [← hH] at hf3 hh1
  have HF0 := Lib.hid hf0
  have HF1 := Lib.hid hf1
  have HF2 := Lib.hid hf2
  have HF3 := Lib.hid hf3
  have HF4 := Lib.hid hf4
  have HH1 := Lib.hid hh1
  have HE := Lib.hid (And.intro eP (And.intro eI (And.intro eB eH)))
  obtain ⟨g0, g1, g2, e0, e1, e2⟩ := blk3 HG2.out
  have hg3 := geo_set HG2.out (.int .i64 (P : Nat)) (.int .i64 (I : Nat)) (.int .i64 (B : Nat))
  have HB3 := Lib.hid (set3B (k := 1) (u0 := .int .i64 (P : Nat)) (u1 := .int .i64 (I : Nat)) (u2 := .int .i64 (B : Nat)) HB2.out)
  have HG3 := Lib.hid hg3
  have hk3 := ((geo_other (b := w.heap.size + 1) (W := w2) (.int .i64 (P : Nat)) (.int .i64 (I : Nat)) (.int .i64 (B : Nat)) (k := w.heap.size) (by omega) (j := 0)).trans c20)
  have HK3 := Lib.hid hk3
  clear hF hf0 hf1 hf2 hf3 hf4 hh1 hP hI hB hH eP eI eB eH hg3 hk3 c20 c21
  go_wp2_with fail
  refine HF0.out.mono ?_
  rintro e w' ⟨rfl, rfl⟩
  go_wp2_with fail
  refine HF1.out.mono ?_
  rintro e w' ⟨rfl, rfl⟩
  go_wp2_with fail
  refine HF2.out.mono ?_
  rintro e w' ⟨rfl, rfl⟩
  go_wp2_with fail
  obtain ⟨eP, eI, eB, eH⟩ := HE.out
  by_cases hmay : MayG (P : Nat) (I : Nat) (B : Nat)
  case neg =>
    have HD := Lib.hid (dec_word H8.out HM.out Ho.out (fun h => hmay (by have := h.1; rw [eP, eI, eB] at this; exact this)))
    refine (Check_no (P : Nat) (I : Nat) (B : Nat) hmay _).mono ?_
    rintro e w4 ⟨rfl, hb4⟩
    have HB4 := Lib.hid (below_then HB3.out hb4)
    have hg4 := (hb4.block _ (lt_of_block HG3.out)).trans HG3.out
    clear g0 g1 g2 e0 e1 e2 hb4 hmay eP eI eB eH
    obtain ⟨g0, g1, g2, e0, e1, e2⟩ := blk3 hg4
    clear hg4
    go_wp2
    go_region_with (go_at_call 36; refine (HWr.out _ _).mono ?_; rintro e w' ⟨rfl, rfl⟩)
    all_goals go_wp2
    all_goals refine bodyPost_ret (v := .tuple #[gv P I B, .bool false, .iface 53 (.agg #[.int .i64 1, .int .i64 7])]) (by unfold results gv; go_simp) rfl ?_
    all_goals refine .inr ⟨by rw [HD.out]; decide, ⟨_, _, _, by rw [HD.out]⟩, ?_⟩
    all_goals exact (set3B HB4.out).drew
  have HMay := Lib.hid hmay
  refine (Check_yes (P : Nat) (I : Nat) (B : Nat) hmay _).mono ?_
  rintro e w4 ⟨rfl, hb4⟩
  have HB4 := Lib.hid (below_then HB3.out hb4)
  have HG4 := Lib.hid ((hb4.block _ (lt_of_block HG3.out)).trans HG3.out)
  have c40 := (hb4.cell (World.block_lt_of_cell? _ _ HK3.out)).trans HK3.out
  have c41 := (HB4.out.cell hblk).trans q1
  have HF3' := Lib.hid (HF3.out w4 c40 c41)
  have HF4' := Lib.hid (HF4.out w4 c40 c41)
  clear g0 g1 g2 e0 e1 e2 hb4 hmay eP eI eB eH
  go_wp2_with fail
  refine HF3'.out.mono ?_
  rintro e w' ⟨rfl, rfl⟩
  obtain ⟨eP, eI, eB, eH⟩ := HE.out
  by_cases hH1 : H ≤ 1
  case neg =>
    have hd1 : decide ((1 : Int) < (H : Int)) = true := by simp; omega
    have HD := Lib.hid (dec_word H8.out HM.out Ho.out (fun h => hH1 (by have := h.2; rw [eH] at this; exact this)))
    obtain ⟨g0, g1, g2, e0, e1, e2⟩ := blk3 HG4.out
    clear hH1 eP eI eB eH
    go_wp2
    go_region_with (go_at_call 36; refine (HWr.out _ _).mono ?_; rintro e w' ⟨rfl, rfl⟩)
    all_goals go_wp2
    all_goals refine bodyPost_ret (v := .tuple #[gv P I B, .bool false, .iface 53 (.agg #[.int .i64 1, .int .i64 7])]) (by unfold results gv; go_simp) rfl ?_
    all_goals refine .inr ⟨by rw [HD.out]; decide, ⟨_, _, _, by rw [HD.out]⟩, ?_⟩
    all_goals exact (set3B HB4.out).drew
  have hd1 : decide ((1 : Int) < (H : Int)) = false := by simp; omega
  have hsl := fun W => slice_to (some ⟨b, o, none⟩) 8 c 7 (by omega) W
  have HDt := Lib.hid (dec_tail H8.out HM.out Ho.out ⟨by rw [eP, eI, eB]; exact HMay.out, by rw [eH]; exact hH1⟩)
  have HH := Lib.hid (HH1.out hH1)
  clear eP eI eB eH hH1
  go_wp2
  go_loop [8, 9, 54] (fun _ _ i => ∃ j : Nat, j ≤ 7 ∧ i = .int .i64 j ∧ ∀ k, 2 ≤ k → k < j → s.getD k 0 = 0) (fun _ _ i => 7 - (intOf i).toNat)
  case atStart => exact ⟨0, by omega, rfl, fun k h1 h2 => by omega⟩
  case round =>
    obtain ⟨j, hj, rfl, hz⟩ := hrel
    have HZ := Lib.hid hz
    clear hz
    by_cases hlt : j < 7
    · have hjl : j < s.length := by rw [H8.out]; omega
      obtain ⟨b', o', hA, qj⟩ := (HR.out.below HB4.out).at_ (u64s_at (l := s) (k := j) hjl)
      injection hA with hA
      injection hA with e1 e2
      subst e1; subst e2
      have hgj : s.getD j 0 = s[j] := by simp [List.getD, hjl]
      generalize s[j] = y at *
      have Hgj := Lib.hid hgj
      have hlt' : (j : Int) < 7 := by omega
      clear hgj hjl
      by_cases h2 : 1 < j
      · have h2' : (1 : Int) < (j : Int) := by omega
        by_cases hy : y = 0
        · subst hy
          have Hy := Lib.hid (show ∀ k, 2 ≤ k → k < j + 1 → s.getD k 0 = 0 from fun k k1 k2 => by
            rcases Nat.lt_or_ge k j with h3 | h3
            · exact HZ.out k k1 h3
            · obtain rfl : k = j := by omega
              exact Hgj.out)
          go_wp2
          go_round
          case rel => exact ⟨j + 1, by omega, by go_num, Hy.out⟩
          case measure => simp [intOf]; omega
        · have hy' : ((y : Int) != 0) = true := by simp; omega
          have HD := Lib.hid (HDt.out.trans (tail_at (by omega) hlt HZ.out (by rw [Hgj.out]; exact hy)))
          have Hj := Lib.hid (show (j : Int) ≠ -1 by omega)
          obtain ⟨g0, g1, g2, e0, e1, e2⟩ := blk3 HG4.out
          clear hy
          go_wp2
          go_region_with (go_at_call 36; refine (HWr.out _ _).mono ?_; rintro e w' ⟨rfl, rfl⟩)
          all_goals go_wp2
          all_goals refine bodyPost_ret (v := .tuple #[gv P I B, .bool false, .iface 53 (.agg #[.int .i64 j, .int .i64 7])]) (by unfold results gv; go_simp) rfl ?_
          all_goals refine .inr ⟨by rw [HD.out]; exact Hj.out, ⟨_, _, _, by rw [HD.out]⟩, ?_⟩
          all_goals exact (set3B HB4.out).drew
      · have h2' : ¬ (1 : Int) < (j : Int) := by omega
        have h2'' : decide ((1 : Int) < (j : Int)) = false := by simp; omega
        have Hy := Lib.hid (show ∀ k, 2 ≤ k → k < j + 1 → s.getD k 0 = 0 from fun k k1 k2 => by omega)
        go_wp2
        go_round
        case rel => exact ⟨j + 1, by omega, by go_num, Hy.out⟩
        case measure => simp [intOf]; omega
    · obtain rfl : j = 7 := by omega
      have HD := Lib.hid (HDt.out.trans (tail_none HZ.out))
      have hf5 : ∀ W : World, W.cell? ⟨w.heap.size, 0, none⟩ = some (.slice (some ⟨b, o, none⟩) 8 c) → W.cell? ⟨b, o + 1, none⟩ = some (.int .u64 (x1 : Nat)) → Calls Tryd.prog 38 #[.int .i64 (48 : Nat), .int .i64 (1 : Nat), .pointer (some ⟨w.heap.size, 0, none⟩)] W fun e w' => e = .returned (.int .i64 (H : Nat)) ∧ W = w' := fun W k0 k1 => by
        have := HF4.out W k0 k1
        rwa [HH.out] at this
      have HF5 := Lib.hid hf5
      clear hf5
      obtain ⟨g0, g1, g2, e0, e1, e2⟩ := blk3 HG4.out
      go_wp2
      go_region_with (go_at_call 38; refine (HF5.out w4.drew c40 c41).mono ?_; rintro e w' ⟨rfl, rfl⟩)
      all_goals go_wp2
      all_goals refine bodyPost_ret (v := .tuple #[gv P I B, .bool ((H : Int) == 1), .nilIface]) (by unfold results gv; go_simp) rfl ?_
      all_goals refine .inl ⟨HD.out, ?_, (set3B HB4.out).drew⟩
      all_goals rw [HE.out.1, HE.out.2.1, HE.out.2.2.1, HE.out.2.2.2, show ((H : Int) == 1) = decide (H = 1) by rw [Bool.eq_iff_iff]; simp; omega]
end Go.Proofs.YtfmjhmgpnlmkkaaDoor
