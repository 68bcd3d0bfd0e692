/- The walk of the law SuperReads. -/
import Derived.Test.YtfmjhmgpnlmkkaaDoorSuperAlive
namespace Go.Proofs.YtfmjhmgpnlmkkaaDoor
open Go.RowKit
set_option linter.unusedVariables false

set_option maxRecDepth 100000 in
set_option maxHeartbeats 8000000 in
theorem superReads_walk (w : World) (hg : Laid w) (v : Value) (s : List Nat) (hs : ∀ x ∈ s, x < 2 ^ 64) (hr : Rd w v s.length (u64s s)) :
    Calls Tryd.prog 4 #[v] w fun e w' => e = .returned (.bool true) ∧ Below w.heap.size w w' := by
  have HR := Lib.hid hr
  have HW := Lib.hid (show Wd s from hs)
  have HG := Lib.hid hg
  have HA := Lib.hid (fun W (hW : Below w.heap.size w W) => alive_any W (HG.out.below hW))
  obtain ⟨A, c, rfl, h1, h2, h3⟩ := hr
  unfold maxLen at h2
  clear h3 hg hs
  by_cases hbig : 40 < s.length
  · have hd : decide ((40 : Int) < (s.length : Int)) = true := by simp; omega
    clear hbig
    go_enter Tryd.func4, Tryd.ntmps4
    go_wp2_with fail
    refine (HA.out _ (Below.refl _ _)).mono ?_
    rintro e w1 ⟨rfl, hb⟩
    have HB := Lib.hid hb
    clear hb
    go_wp2
    go_ret
    exact ⟨rfl, HB.out⟩
  have hd : decide ((40 : Int) < (s.length : Int)) = false := by simp; omega
  have HRd := Lib.hid (reads_any (.slice A s.length c) s w (by omega) HW.out HR.out HG.out)
  by_cases h8 : s.length = 8
  case neg =>
    have hd2 : ((s.length : Int) != 8) = true := by simp; omega
    clear h8 hbig
    go_enter Tryd.func4, Tryd.ntmps4
    go_wp2_with fail
    refine HRd.out.mono ?_
    rintro e w1 ⟨rfl, hb⟩
    have HB := Lib.hid hb
    clear hb
    go_wp2_with fail
    refine (HA.out _ HB.out).mono ?_
    rintro e w2 ⟨rfl, hb⟩
    have HB2 := Lib.hid (below_then HB.out hb)
    clear hb
    go_wp2
    go_ret
    exact ⟨rfl, HB2.out⟩
  have hd2 : ((s.length : Int) != 8) = false := by simp; omega
  have hRt : Rd w (.slice A 7 c) 7 (u64s (s.take 7)) := by
    have := HR.out.take rfl (show 7 ≤ s.length by omega)
    rwa [u64s_take] at this
  have HRt := Lib.hid hRt
  have hl7 : (s.take 7).length = 7 := by rw [List.length_take, h8]; rfl
  have hw7 : Wd (s.take 7) := fun x hx => HW.out x (List.mem_of_mem_take hx)
  have HSeal := Lib.hid (fun W (hW : Below w.heap.size w W) => by
    have := refSeal_any (.slice A 7 c) (s.take 7) W (by rw [hl7]; exact hRt.below hW) hw7 (by rw [hl7]; decide)
    rw [hl7] at this
    exact this)
  have HL7 := Lib.hid hl7
  have HW7 := Lib.hid (sealed_wd hw7)
  have hsl := fun W => slice_to A 8 c 7 (by omega) W
  rw [h8] at HRd h1 hd hd2 ⊢
  clear h8 hbig hRt hl7 hw7
  go_enter Tryd.func4, Tryd.ntmps4
  go_wp2_with fail
  refine HRd.out.mono ?_
  rintro e w1 ⟨rfl, hb⟩
  have HB := Lib.hid hb
  clear hb
  go_wp2_with fail
  refine (HSeal.out _ HB.out).mono ?_
  rintro e w2 ⟨A2, c2, rfl, ho2, hb2⟩
  have HB2 := Lib.hid (below_then HB.out hb2)
  have HR2 := Lib.hid (Rd.of_own ho2)
  clear hb2 ho2
  go_wp2_with fail
  refine (reads_any _ (sealed (s.take 7)) _ (by rw [sealed_len, HL7.out]; decide) HW7.out (by rw [sealed_len, HL7.out]; exact HR2.out) (HG.out.below HB2.out)).mono ?_
  rintro e w3 ⟨rfl, hb3⟩
  have HB3 := Lib.hid (below_then HB2.out hb3)
  clear hb3
  go_wp2_with fail
  refine (HA.out _ HB3.out).mono ?_
  rintro e w4 ⟨rfl, hb4⟩
  have HB4 := Lib.hid (below_then HB3.out hb4)
  clear hb4
  go_wp2
  go_ret
  exact ⟨rfl, HB4.out⟩
end Go.Proofs.YtfmjhmgpnlmkkaaDoor
