/- super.Encode by its contract. -/
import Derived.Test.YtfmjhmgpnlmkkaaDoorSuperC
import Derived.Test.YtfmjhmgpnlmkkaaDoorGeomBlk
namespace Go.Proofs.YtfmjhmgpnlmkkaaDoor
open Go.RowKit
set_option linter.unusedVariables false

theorem Encode_no (P I B : Int) (h : ¬ MayG P I B) (high : Bool) (w : World) :
    Calls Tryd.prog 7 #[gv P I B, .bool high] w fun e w' => e = .returned (.tuple #[.slice none 0 0, .int .i64 2]) ∧ Below w.heap.size w w' := by
  have HC := Lib.hid (fun W => Check_no P I B h W)
  unfold gv at HC ⊢
  clear h
  have HB0 := Lib.hid ((Below.refl w.heap.size w).alloc (Nat.le_refl _) (.cells #[.int .i64 P, .int .i64 I, .int .i64 B] 23))
  go_enter Tryd.func7, Tryd.ntmps7
  go_wp2_with fail
  refine (HC.out _).mono ?_
  rintro e w1 ⟨rfl, hb⟩
  have HB1 := Lib.hid (below_then HB0.out hb)
  clear hb
  go_wp2
  go_ret2
  exact ⟨rfl, HB1.out⟩

theorem EncSt.put1 {w : World} {base bl ba g cap : Nat} {L : List Nat} {at_ : Nat} (h : EncSt w base bl ba g cap L at_) (y : Nat) :
    EncSt ((w.setCell ⟨g, 1, none⟩ (.int .u64 (y : Nat))).drew) base bl ba g cap (L.set 1 y) at_ ∧ Below base w ((w.setCell ⟨g, 1, none⟩ (.int .u64 (y : Nat))).drew) := by
  obtain ⟨n1, n2, n3⟩ := h.ne
  obtain ⟨hbg, _⟩ := own_block h.row
  have hs := (h.row.stored 1 (.int .u64 (y : Nat))).1
  rw [u64s_setAt] at hs
  refine ⟨⟨?_, ?_, hs.drew, h.b1, h.b2⟩, ((Below.refl _ _).setCell (p := ⟨g, 1, none⟩) hbg _).drew⟩
  · show (w.setCell ⟨g, 1, none⟩ _).heap[bl]? = _
    rw [Below.heap_setCell _ _ _ _ n1]; exact h.box
  · show (w.setCell ⟨g, 1, none⟩ _).heap[ba]? = _
    rw [Below.heap_setCell _ _ _ _ n2]; exact h.pl

set_option maxRecDepth 100000 in
set_option maxHeartbeats 8000000 in
theorem Encode_yes (P I B : Nat) (h : MayG P I B) (high : Bool) (w : World) :
    Calls Tryd.prog 7 #[gv (P : Nat) (I : Nat) (B : Nat), .bool high] w fun e w' => ∃ A c, e = .returned (.tuple #[.slice A 8 c, .int .i64 0]) ∧ w'.ownsRow w.heap.size 42 1 (.slice A 8 c) 8 (u64s (sealed (superL P I B high))) ∧ Below w.heap.size w w' := by
  have hP : P < 65536 := by have := h.2.1; omega
  have hI : I < 65536 := by have := h.2.2.2.1; omega
  have hB : B < 65536 := by have := h.2.2.2.2.2; omega
  have HC := Lib.hid (fun W => Check_yes (P : Nat) (I : Nat) (B : Nat) h W)
  have hgeo : (w.alloc (.cells #[.int .i64 (P : Nat), .int .i64 (I : Nat), .int .i64 (B : Nat)] 23)).heap[w.heap.size]? = some (.cells #[.int .i64 (P : Nat), .int .i64 (I : Nat), .int .i64 (B : Nat)] 23 (0, 0)) := heap_alloc_new w _
  have HGe := Lib.hid hgeo
  have HB0 := Lib.hid ((Below.refl w.heap.size w).alloc (Nat.le_refl _) (.cells #[.int .i64 (P : Nat), .int .i64 (I : Nat), .int .i64 (B : Nat)] 23))
  have hmf : ∀ (fn : Fn) (first cap : Array Value) (w : World), (Instr.makeFunc fn first cap).run Tryd.prog w = .ok (.func fn first cap) w := fun _ _ _ _ => rfl
  have HN := Lib.hid (fun bl ba g cap W hW hb => numbers_any P I B hP hI hB w.heap.size bl ba g cap [magicW, 0, 0, 0, 0, 0, 0] rfl (by decide) W hW hb)
  unfold gv at HC HN ⊢
  clear h hgeo
  go_enter Tryd.func7, Tryd.ntmps7
  go_wp2_with fail
  refine (HC.out _).mono ?_
  rintro e w1 ⟨rfl, hb⟩
  have HB1 := Lib.hid (below_then HB0.out hb)
  have hg1 := (hb.block w.heap.size (by simp)).trans HGe.out
  have HGe1 := Lib.hid hg1
  clear hb hg1
  go_wp2_with fail
  refine (PackM_any _).mono ?_
  rintro e w2 ⟨rfl, ho2, hb2⟩
  have HB2 := Lib.hid (below_then HB1.out hb2)
  have hg2 := (hb2.block w.heap.size (lt_of_block HGe1.out)).trans HGe1.out
  obtain ⟨c3, w3, hrun, ho3, hb3⟩ := run_append_zeros64 24 w2 w1.heap.size w1.heap.size 1 6 [magicW] rfl ho2 (by decide) (by decide) hb2.size
  have hg3 := (hb3.block w.heap.size (lt_of_block hg2)).trans hg2
  have HB3 := Lib.hid (below_then HB2.out hb3)
  have HGe3 := Lib.hid hg3
  have HO3 := Lib.hid ho3
  have hsz3 := hb3.size
  have HRun := Lib.hid hrun
  obtain ⟨g0, g1, g2, _, _, _⟩ := blk3 hg3
  have hlt3 := lt_of_block hg3
  have henc : EncSt ((w3.alloc (.cells #[.slice (some ⟨w2.heap.size, 0, none⟩) 7 c3] 24)).alloc (.cells #[.int .i64 0] 3)) w.heap.size w3.heap.size (w3.heap.size + 1) w2.heap.size c3 [magicW, 0, 0, 0, 0, 0, 0] 0 := by
    refine ⟨?_, ?_, ?_, by omega, by omega⟩
    · rw [heap_alloc_old _ _ (by simp)]; exact heap_alloc_new w3 _
    · have := heap_alloc_new (w3.alloc (.cells #[.slice (some ⟨w2.heap.size, 0, none⟩) 7 c3] 24)) (.cells #[.int .i64 0] 3)
      simpa using this
    · exact own_mono ((ho3.alloc _).alloc _) HB1.out.size
  have HEnc := Lib.hid henc
  have HB5 := Lib.hid (below_then HB3.out (((Below.refl w3.heap.size w3).alloc (Nat.le_refl _) (.cells #[.slice (some ⟨w2.heap.size, 0, none⟩) 7 c3] 24)).alloc (by simp) (.cells #[.int .i64 0] 3)))
  have hg2w := HB2.out.size
  clear hg3 hg2 ho3 ho2 hb2 hb3 hrun henc
  go_wp2_with (at_builtin; refine Lib.wpList_append_run _ rfl (.tmp 14) (.const (.int .i64 6)) _ _ rfl _ _ rfl rfl _ _ HRun.out ?_)
  refine (HN.out _ _ _ _ _ HEnc.out HB5.out.size).mono ?_
  rintro e w6 ⟨rfl, h6, t6⟩
  have hb6 := HB5.out.trans (t6.below HB5.out.size (fun b hb => by rcases hb with rfl | rfl <;> omega))
  rw [show ([magicW, 0, 0, 0, 0, 0, 0] : List Nat).getD 1 0 = 0 from rfl, put3_val hP hI hB, show ([magicW, 0, 0, 0, 0, 0, 0] : List Nat).set 1 (word1 P I B false) = superL P I B false from rfl] at h6
  have HB6 := Lib.hid hb6
  have H6 := Lib.hid h6
  have c1 := cell_of_one h6.box
  clear h6 t6 hb6 g0 g1 g2
  cases high with
  | false =>
    go_wp2_with fail
    refine (Seal_n _ (superL P I B false) 7 rfl _ (Rd.of_own H6.out.row) (superL_wd hP hI hB false) (by decide)).mono ?_
    rintro e w7 ⟨A7, c7, rfl, ho7, hb7⟩
    have HB7 := Lib.hid (below_then HB6.out hb7)
    have HO7 := Lib.hid (own_mono ho7 HB6.out.size)
    clear ho7 hb7
    go_wp2
    go_ret2
    exact ⟨_, _, rfl, HO7.out, HB7.out⟩
  | true =>
    have hz := H6.out.row.cellAt 1 (by decide)
    rw [show (u64s (superL P I B false))[1]? = some (.int .u64 (word1 P I B false : Nat)) from rfl] at hz
    have hf := H6.out.row.frozenAt 1
    have hwl := word1_lt hP hI hB false
    have HP := Lib.hid (fun W => Put_yes (word1 P I B false) 1 48 1 (by unfold Fld; omega) hwl (by decide) W)
    have h7 := H6.out.put1 (word1 P I B true)
    rw [show (superL P I B false).set 1 (word1 P I B true) = superL P I B true from rfl] at h7
    have hpv := put4_val hP hI hB
    rw [show (48 : Int).toNat = 48 from rfl, show (1 : Int).toNat = 1 from rfl, hpv] at HP
    generalize word1 P I B false = x at *
    generalize word1 P I B true = y at *
    have H7 := Lib.hid h7.1
    have HB7 := Lib.hid (HB6.out.trans h7.2)
    have c2 := cell_of_one h7.1.box
    clear h7 hpv hwl
    go_wp2
    go_region_with (go_at_call 19; refine (HP.out _).mono ?_; rintro e w' ⟨rfl, rfl⟩)
    all_goals go_wp2_with fail
    all_goals refine (Seal_n _ (superL P I B true) 7 rfl _ (Rd.of_own H7.out.row) (superL_wd hP hI hB true) (by decide)).mono ?_
    all_goals rintro e w7 ⟨A7, c7, rfl, ho7, hb7⟩
    all_goals have HB8 := Lib.hid (below_then HB7.out hb7)
    all_goals have HO7 := Lib.hid (own_mono ho7 HB7.out.size)
    all_goals clear ho7 hb7
    all_goals go_wp2
    all_goals go_ret2
    all_goals exact ⟨_, _, rfl, HO7.out, HB8.out⟩
end Go.Proofs.YtfmjhmgpnlmkkaaDoor
