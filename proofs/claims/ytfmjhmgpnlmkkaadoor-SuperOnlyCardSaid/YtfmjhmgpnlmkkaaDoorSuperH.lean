/- super.Decode. -/
import Derived.Test.YtfmjhmgpnlmkkaaDoorSuperG
import Derived.Test.YtfmjhmgpnlmkkaaDoorFaultTold
namespace Go.Proofs.YtfmjhmgpnlmkkaaDoor
open Go.RowKit
set_option linter.unusedVariables false

theorem as_nil (v : Value) (w : World) : Calls Tryd.prog 26 #[.nilIface, v] w fun e w' => e = .returned (.bool false) ∧ w = w' := by
  go_enter Tryd.func26, Tryd.ntmps26
  go_wp2
  go_ret
  exact ⟨rfl, rfl⟩
/-- what super.Decode answers -/
def DecOut (w : World) (s : List Nat) (e : Ending) (w' : World) : Prop :=
  (decAt s = -1 ∧ e = .returned (.tuple #[gv (fP s : Nat) (fI s : Nat) (fB s : Nat), .bool (decide (fH s = 1)), .nilIface]) ∧ Below w.heap.size w w') ∨
  (decAt s ≠ -1 ∧ e = .returned (.tuple #[gv 0 0 0, .bool false, .iface 53 (.agg #[.int .i64 (decAt s), .int .i64 7])]) ∧ Below w.heap.size w w')

set_option maxRecDepth 100000 in
set_option maxHeartbeats 8000000 in
theorem Decode_any (v : Value) (s : List Nat) (w : World) (hw : ∀ x ∈ s, x < 18446744073709551616) (hl : s.length ≤ 65536) (hr : Rd w v s.length (u64s s)) (hg : Laid w) :
    Calls Tryd.prog 14 #[v] w (DecOut w s) := by
  have HR := Lib.hid hr
  have HG := Lib.hid hg
  have hb0 := (Below.refl w.heap.size w).alloc (Nat.le_refl _) (.cells #[.int .i64 0, .int .i64 0, .int .i64 0] 23)
  have HRead := Lib.hid (read_any v s (w.alloc (.cells #[.int .i64 0, .int .i64 0, .int .i64 0] 23)) hw hl (hr.below hb0))
  have hgeo : (w.alloc (.cells #[.int .i64 0, .int .i64 0, .int .i64 0] 23)).heap[w.heap.size]? = some (.cells #[.int .i64 0, .int .i64 0, .int .i64 0] 23 (0, 0)) := heap_alloc_new w _
  have HB0 := Lib.hid hb0
  have HGe := Lib.hid hgeo
  clear hr hg hb0 hgeo hw
  go_enter Tryd.func14, Tryd.ntmps14
  go_wp2_with fail
  refine HRead.out.mono ?_
  rintro e w1 (⟨hd, rfl, hb1⟩ | ⟨hd, ⟨p, i, b, rfl⟩, hb1⟩)
  · have HD := Lib.hid hd
    have HB1 := Lib.hid (below_then HB0.out hb1)
    have hg1 := (hb1.block w.heap.size (by simp)).trans HGe.out
    obtain ⟨g0, g1, g2, e0, e1, e2⟩ := blk3 hg1
    have hlt1 := lt_of_block hg1
    unfold gv
    generalize hP : fP s = P at *
    generalize hI : fI s = I at *
    generalize hB : fB s = B at *
    generalize hH : decide (fH s = 1) = H at *
    have HE := Lib.hid (And.intro hP (And.intro hI (And.intro hB hH)))
    clear hP hI hB hH
    clear hd hb1
    have hs := set3B (k := 0) (u0 := .int .i64 (P : Nat)) (u1 := .int .i64 (I : Nat)) (u2 := .int .i64 (B : Nat)) HB1.out
    have hgs := geo_set hg1 (.int .i64 (P : Nat)) (.int .i64 (I : Nat)) (.int .i64 (B : Nat))
    have hsz : (((w1.setCell ⟨w.heap.size, 0, none⟩ (.int .i64 (P : Nat))).setCell ⟨w.heap.size, 1, none⟩ (.int .i64 (I : Nat))).setCell ⟨w.heap.size, 2, none⟩ (.int .i64 (B : Nat))).heap.size = w1.heap.size := by simp
    have HAs : Hid (Calls Tryd.prog 26 #[.nilIface, .iface 58 (.pointer (some ⟨w1.heap.size, 0, none⟩))] ((((w1.setCell ⟨w.heap.size, 0, none⟩ (.int .i64 (P : Nat))).setCell ⟨w.heap.size, 1, none⟩ (.int .i64 (I : Nat))).setCell ⟨w.heap.size, 2, none⟩ (.int .i64 (B : Nat))).alloc (.cells #[.int .i64 0, .int .i64 0] 53)) fun e w' => e = .returned (.bool false) ∧ Below w.heap.size w w' ∧ w'.heap[w.heap.size]? = some (.cells #[.int .i64 (P : Nat), .int .i64 (I : Nat), .int .i64 (B : Nat)] 23 (0, 0))) := by
      generalize ((w1.setCell ⟨w.heap.size, 0, none⟩ (.int .i64 (P : Nat))).setCell ⟨w.heap.size, 1, none⟩ (.int .i64 (I : Nat))).setCell ⟨w.heap.size, 2, none⟩ (.int .i64 (B : Nat)) = W at *
      have hbW := hs.alloc (Nat.le_trans HB1.out.size (by rw [hsz]; exact Nat.le_refl _)) (.cells #[.int .i64 0, .int .i64 0] 53)
      refine (as_nil _ _).mono ?_
      rintro e w' ⟨h1, rfl⟩
      have hltW : w.heap.size < W.heap.size := by rw [hsz]; exact hlt1
      exact ⟨h1, hbW, (heap_alloc_old W _ hltW).trans hgs⟩
    clear hs hgs hsz hg1
    go_wp2_with fail
    refine HAs.out.mono ?_
    rintro e w3 ⟨rfl, hb3, hg3⟩
    have HB3 := Lib.hid hb3
    clear g0 g1 g2 e0 e1 e2 hb3
    obtain ⟨g0, g1, g2, e0, e1, e2⟩ := blk3 hg3
    have hg4 := geo_set hg3 (.int .i64 (P : Nat)) (.int .i64 (I : Nat)) (.int .i64 (B : Nat))
    clear hg3
    go_wp2
    refine bodyPost_ret (v := .tuple #[gv P I B, .bool H, .nilIface]) (by unfold results gv; go_simp) rfl ?_
    obtain ⟨hP, hI, hB, hH⟩ := HE.out
    refine .inl ⟨HD.out, by rw [hP, hI, hB, hH], ?_⟩
    exact set3B (k := 0) HB3.out
  · have HD := Lib.hid hd
    have HB1 := Lib.hid (below_then HB0.out hb1)
    have hg1 := (hb1.block w.heap.size (by simp)).trans HGe.out
    obtain ⟨g0, g1, g2, e0, e1, e2⟩ := blk3 hg1
    have hlt1 := lt_of_block hg1
    unfold gv
    clear hd hb1
    have hs := set3B (k := 0) (u0 := .int .i64 p) (u1 := .int .i64 i) (u2 := .int .i64 b) HB1.out
    have hgs := geo_set hg1 (.int .i64 p) (.int .i64 i) (.int .i64 b)
    have hsz : (((w1.setCell ⟨w.heap.size, 0, none⟩ (.int .i64 p)).setCell ⟨w.heap.size, 1, none⟩ (.int .i64 i)).setCell ⟨w.heap.size, 2, none⟩ (.int .i64 b)).heap.size = w1.heap.size := by simp
    have HAs : Hid (Calls Tryd.prog 26 #[.iface 53 (.agg #[.int .i64 (decAt s), .int .i64 7]), .iface 58 (.pointer (some ⟨w1.heap.size, 0, none⟩))] ((((w1.setCell ⟨w.heap.size, 0, none⟩ (.int .i64 p)).setCell ⟨w.heap.size, 1, none⟩ (.int .i64 i)).setCell ⟨w.heap.size, 2, none⟩ (.int .i64 b)).alloc (.cells #[.int .i64 0, .int .i64 0] 53)) fun e w' => e = .returned (.bool true) ∧ w'.cell? ⟨w1.heap.size, 0, none⟩ = some (.int .i64 (decAt s)) ∧ w'.cell? ⟨w1.heap.size, 1, none⟩ = some (.int .i64 7) ∧ Below w.heap.size w w' ∧ w'.heap[w.heap.size]? = some (.cells #[.int .i64 p, .int .i64 i, .int .i64 b] 23 (0, 0))) := by
      generalize ((w1.setCell ⟨w.heap.size, 0, none⟩ (.int .i64 p)).setCell ⟨w.heap.size, 1, none⟩ (.int .i64 i)).setCell ⟨w.heap.size, 2, none⟩ (.int .i64 b) = W at *
      rw [← hsz]
      have hbW := hs.alloc (Nat.le_trans HB1.out.size (by rw [hsz]; exact Nat.le_refl _)) (.cells #[.int .i64 0, .int .i64 0] 53)
      refine (as_out (decAt s) 7 W.heap.size (.int .i64 0) (.int .i64 0) _ (HG.out.below hbW) (by simp) (by simp) (by simp) (by simp)).mono ?_
      rintro e w' ⟨h1, h2, h3, h4, h5⟩
      have hltW : w.heap.size < W.heap.size := by rw [hsz]; exact hlt1
      exact ⟨h1, h2, h3, hbW.trans (h4.mono (by omega)), (h4.block _ hltW).trans ((heap_alloc_old W _ hltW).trans hgs)⟩
    clear hs hgs hsz hg1
    go_wp2_with fail
    refine HAs.out.mono ?_
    rintro e w3 ⟨rfl, k0, k1, hb3, hg3⟩
    have HB3 := Lib.hid hb3
    clear g0 g1 g2 e0 e1 e2 hb3
    obtain ⟨g0, g1, g2, e0, e1, e2⟩ := blk3 hg3
    clear hg3
    generalize hdd : decAt s = d at *
    have HE := Lib.hid hdd
    clear hdd
    go_wp2
    go_region
    go_wp2
    refine bodyPost_ret (v := .tuple #[gv 0 0 0, .bool false, .iface 53 (.agg #[.int .i64 d, .int .i64 7])]) (by unfold results gv; go_simp) rfl ?_
    refine .inr ⟨by rw [HE.out]; exact HD.out, by rw [HE.out], ?_⟩
    exact (set3B (k := 0) HB3.out).drew
end Go.Proofs.YtfmjhmgpnlmkkaaDoor
