/- The walk of the law InodeReads. -/
import Derived.Test.YtnpmepklgakaiaaDoorInodeAlive
import Derived.Test.YtnpmepklgakaiaaDoorInodeJ
namespace Go.Proofs.YtnpmepklgakaiaaDoor
open Go.RowKit
set_option linter.unusedVariables false

theorem keep3c {W W' : World} {b : Nat} {v0 v1 v2 : Value} (h : W.cell? ⟨b, 0, none⟩ = some v0 ∧ W.cell? ⟨b, 1, none⟩ = some v1 ∧ W.cell? ⟨b, 2, none⟩ = some v2) (hb : Below W.heap.size W W') : W'.cell? ⟨b, 0, none⟩ = some v0 ∧ W'.cell? ⟨b, 1, none⟩ = some v1 ∧ W'.cell? ⟨b, 2, none⟩ = some v2 := by
  have K : ∀ (p : Addr) (v : Value), W.cell? p = some v → W'.cell? p = some v := fun p v hv => (hb.cell (World.block_lt_of_cell? _ _ hv)).trans hv
  exact ⟨K _ _ h.1, K _ _ h.2.1, K _ _ h.2.2⟩
set_option maxRecDepth 100000 in
set_option maxHeartbeats 8000000 in
theorem inodeReads_walk (w : World) (hg : Laid w) (v : Value) (s : List Nat) (hs : ∀ x ∈ s, x < 2 ^ 64) (hr : Rd w v s.length (u64s s)) (P I B : Int) (hP : I64 P) (hI : I64 I) (hB : I64 B) :
    Calls Tryd.prog 4 #[v, gv P I B] w fun e w' => e = .returned (.bool true) ∧ Below w.heap.size w w' := by
  have HW := Lib.hid (show Wd s from hs)
  have HG := Lib.hid hg
  have HA := Lib.hid (fun W (hW : Below w.heap.size w W) => alive_any W (HG.out.below hW))
  have HB0 := Lib.hid ((Below.refl _ w).alloc (Nat.le_refl _) (.cells #[.int .i64 P, .int .i64 I, .int .i64 B] 27))
  have HGe := Lib.hid (show (w.alloc (.cells #[.int .i64 P, .int .i64 I, .int .i64 B] 27)).heap[w.heap.size]? = some (.cells #[.int .i64 P, .int .i64 I, .int .i64 B] 27 (0, 0)) from heap_alloc_new w _)
  have HR := Lib.hid hr
  obtain ⟨A, c, rfl, h1, h2, h3⟩ := hr
  unfold maxLen at h2
  have HRd := Lib.hid (fun v s W (hl : s.length ≤ 65536) (hw : Wd s) (hr : Rd W v s.length (u64s s)) (hL : Laid W) => reads_any v s P I B W hl hw hr hL)
  unfold gv at HRd ⊢
  clear h3 hg hs hP hI hB
  by_cases hbig : 40 < s.length
  · have hd : decide ((40 : Int) < (s.length : Int)) = true := by simp; omega
    clear hbig
    go_enter Tryd.func4, Tryd.ntmps4
    go_wp2_with fail
    refine (HA.out _ HB0.out).mono ?_
    rintro e w1 ⟨rfl, hb⟩
    have HB := Lib.hid (below_then HB0.out hb)
    clear hb
    go_wp2
    go_ret
    exact ⟨rfl, HB.out⟩
  have hd : decide ((40 : Int) < (s.length : Int)) = false := by simp; omega
  have HRd0 := Lib.hid (fun W (hW : Below w.heap.size w W) => HRd.out (.slice A s.length c) s W (by omega) HW.out (HR.out.below hW) (HG.out.below hW))
  by_cases h8 : s.length = 8
  case neg =>
    have hd2 : ((s.length : Int) != 8) = true := by simp; omega
    clear h8 hbig
    go_enter Tryd.func4, Tryd.ntmps4
    go_wp2_with fail
    refine (HRd0.out _ HB0.out).mono ?_
    rintro e w1 ⟨rfl, hb⟩
    have HB := Lib.hid (below_then HB0.out hb)
    clear hb
    go_wp2_with fail
    first | go_region_with (go_at_call 10; refine (HA.out _ HB.out.drew).mono ?_; rintro e w2 ⟨rfl, hb⟩) | fail
    all_goals have HB2 := Lib.hid (below_then HB.out.drew hb)
    all_goals clear hb
    all_goals go_wp2
    all_goals go_ret
    all_goals exact ⟨rfl, HB2.out⟩
  have hd2 : ((s.length : Int) != 8) = false := by simp; omega
  have hRt : Rd w (.slice A 7 c) 7 (u64s (s.take 7)) := by
    have := HR.out.take rfl (show 7 ≤ s.length by omega)
    rwa [u64s_take] at this
  have HRt := Lib.hid hRt
  have hl7 : (s.take 7).length = 7 := by rw [List.length_take, h8]; rfl
  have hw7 : Wd (s.take 7) := fun x hx => HW.out x (List.mem_of_mem_take hx)
  have HSeal := Lib.hid (fun W (hW : Below w.heap.size w W) => by
    have := refSeal_any (.slice A 7 c) (s.take 7) W (by rw [hl7]; exact hRt.below hW) hw7 (by rw [hl7]; decide)
    rw [hl7] at this
    exact this)
  have HL7 := Lib.hid hl7
  have HW7 := Lib.hid (sealed_wd hw7)
  have hsl : ∀ W, (Instr.slice 28 (.slice A 8 c) none (some (.int .i64 7)) none).run Tryd.prog W = .ok (.slice A 7 c) W := fun W => slice_to A 8 c 7 (by omega) W
  rw [h8] at HRd0 h1 hd hd2 ⊢
  clear h8 hbig hRt hl7 hw7
  go_enter Tryd.func4, Tryd.ntmps4
  go_wp2_with fail
  refine (HRd0.out _ HB0.out).mono ?_
  rintro e w1 ⟨rfl, hb⟩
  have HB := Lib.hid (below_then HB0.out hb)
  have hge1 := blk_below HGe.out hb
  obtain ⟨g0, g1, g2, _, _, _⟩ := blk3 hge1
  have hK := And.intro g0 (And.intro g1 g2)
  have HK := Lib.hid hK
  clear hb hge1 hK g0 g1 g2
  go_wp2_with fail
  go_region_held3 (fun w' => w'.cell? ⟨w.heap.size, 0, none⟩ = some (.int .i64 P) ∧ w'.cell? ⟨w.heap.size, 1, none⟩ = some (.int .i64 I) ∧ w'.cell? ⟨w.heap.size, 2, none⟩ = some (.int .i64 B))
    (first | exact HK.out | (refine keep3c ?_ hbN; assumption))
    (first
      | (go_at_call 14; refine (HSeal.out _ HB.out.drew).mono ?_; rintro e w2 ⟨A2, c2, rfl, ho2, hbN⟩; have HB2 := Lib.hid (below_then HB.out.drew hbN); have HR2 := Lib.hid (Rd.of_own ho2); clear ho2)
      | (go_at_call 13; refine (HRd.out _ (sealed (s.take 7)) _ (by rw [sealed_len, HL7.out]; decide) HW7.out (by rw [sealed_len, HL7.out]; exact HR2.out) (HG.out.below HB2.out)).mono ?_; rintro e w3 ⟨rfl, hbN⟩; have HB3 := Lib.hid (below_then HB2.out hbN))
      | (go_at_call 10; refine (HA.out _ HB3.out).mono ?_; rintro e w4 ⟨rfl, hbN⟩; have HB4 := Lib.hid (below_then HB3.out hbN)))
  go_wp2
  go_ret
  exact ⟨rfl, HB4.out⟩
end Go.Proofs.YtnpmepklgakaiaaDoor
