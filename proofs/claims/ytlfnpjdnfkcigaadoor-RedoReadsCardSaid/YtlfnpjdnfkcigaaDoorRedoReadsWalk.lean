/- The walk of the law RedoReads. -/
import Derived.Test.YtlfnpjdnfkcigaaDoorRedoK
namespace Go.Proofs.YtlfnpjdnfkcigaaDoor
open Go.RowKit
set_option linter.unusedVariables false

theorem u64s_setN (l : List Nat) (k x : Nat) : (u64s l).set k (.int .u64 (x : Nat)) = u64s (l.set k x) := by simp [u64s, List.map_set]

set_option maxRecDepth 100000 in
set_option maxHeartbeats 8000000 in
theorem redoReads_walk (w : World) (hg : Laid w) (v : Value) (s : List Nat) (hs : ∀ x ∈ s, x < 2 ^ 64) (hr : Rd w v s.length (u64s s)) (v' : Value) (l : List Rdo) (hl : ∀ r ∈ l, OkR r) (hr' : Rd w v' l.length (rcells l)) (by_ : Nat) (hby : by_ < 18446744073709551616) :
    Calls Tryd.prog 4 #[v, v', .int .u64 by_] w fun e w' => e = .returned (.bool true) ∧ Below w.heap.size w w' := by
  have HS := Lib.hid hr
  have HW := Lib.hid (show Wd s from hs)
  have HR := Lib.hid hr'
  have HO := Lib.hid hl
  have HG := Lib.hid hg
  have hLg := large_any v' l w hr'
  have HA := Lib.hid (fun W (hW : Below w.heap.size w W) => alive_any W (HG.out.below hW))
  obtain ⟨A, c, rfl, h1, h2, h3⟩ := hr
  unfold maxLen at h2
  clear h3 hl hg hs hr'
  by_cases hbs : 300 < s.length
  · have hd : decide ((300 : Int) < (s.length : Int)) = true := by simp; omega
    clear hbs hLg
    go_enter Tryd.func4, Tryd.ntmps4
    go_wp2_with fail
    refine (HA.out _ (Below.refl _ _)).mono ?_
    rintro e w1 ⟨rfl, hb⟩
    have HB := Lib.hid hb
    clear hb
    go_wp2
    go_ret
    exact ⟨rfl, HB.out⟩
  have hd : decide ((300 : Int) < (s.length : Int)) = false := by simp; omega
  have hsb : s.length ≤ 300 := by omega
  by_cases hbig : 300 < l.length
  · rw [decide_eq_true hbig] at hLg
    have HLg := Lib.hid hLg
    clear hbig hLg hbs
    go_enter Tryd.func4, Tryd.ntmps4
    go_wp2_with fail
    refine HLg.out.mono ?_
    rintro e w1 ⟨rfl, rfl⟩
    go_wp2_with fail
    refine (HA.out _ (Below.refl _ _)).mono ?_
    rintro e w1 ⟨rfl, hb⟩
    have HB := Lib.hid hb
    clear hb
    go_wp2
    go_ret
    exact ⟨rfl, HB.out⟩
  rw [decide_eq_false hbig] at hLg
  have HLg := Lib.hid hLg
  have hlb : l.length ≤ 300 := by omega
  have HM := Lib.hid (fun W (hW : Below w.heap.size w W) => refMay_any v' l W (HR.out.below hW))
  clear hbig hLg hbs
  by_cases h136 : s.length = 136
  case neg =>
    have hd2 : ((s.length : Int) != 136) = true := by simp; omega
    clear h136
    go_enter Tryd.func4, Tryd.ntmps4
    go_wp2_with fail
    refine HLg.out.mono ?_
    rintro e w1 ⟨rfl, rfl⟩
    go_wp2_with fail
    refine (reads_any _ s _ (by omega) HW.out HS.out HG.out).mono ?_
    rintro e w1 ⟨rfl, hb⟩
    have HB := Lib.hid hb
    clear hb
    go_wp2_with fail
    refine (HA.out _ HB.out).mono ?_
    rintro e w2 ⟨rfl, hb⟩
    have HB2 := Lib.hid (below_then HB.out hb)
    clear hb
    go_wp2
    go_ret
    exact ⟨rfl, HB2.out⟩
  have hd2 : ((s.length : Int) != 136) = false := by simp; omega
  have H136 := Lib.hid h136
  by_cases hm : mayE l = 0
  case neg =>
    generalize mayE l = q at *
    have hne : (q != 0) = true := by simpa using hm
    clear h136 hm
    go_enter Tryd.func4, Tryd.ntmps4
    go_wp2_with fail
    refine HLg.out.mono ?_
    rintro e w1 ⟨rfl, rfl⟩
    go_wp2_with fail
    refine (reads_any _ s _ (by omega) HW.out HS.out HG.out).mono ?_
    rintro e w1 ⟨rfl, hb⟩
    have HB := Lib.hid hb
    clear hb
    go_wp2_with fail
    refine (HM.out _ HB.out).mono ?_
    rintro e w2 ⟨rfl, rfl⟩
    go_wp2_with fail
    refine (HA.out _ HB.out).mono ?_
    rintro e w2 ⟨rfl, hb⟩
    have HB2 := Lib.hid (below_then HB.out hb)
    clear hb
    go_wp2
    go_ret
    exact ⟨rfl, HB2.out⟩
  obtain ⟨hml, hmay⟩ := mayE_ok.1 hm
  rw [hm] at HM
  have HMay := Lib.hid hmay
  have hok : ∀ r ∈ l, mayOne r ∧ r.w < 18446744073709551616 := fun r h => ⟨hmay r h, (HO.out r h).2⟩
  have HOk := Lib.hid hok
  obtain ⟨m, hlm⟩ : ∃ m, m = l.length * 2 := ⟨_, rfl⟩
  have hm128 : m ≤ 128 := by omega
  have hLb := (rbody_length l).trans hlm.symm
  have HBody := Lib.hid (fun W (hW : Below w.heap.size w W) => by
    have := refBody_any v' l W (HR.out.below hW) hmay hml
    rwa [← hlm] at this)
  have HWb := Lib.hid (show Wd (rbody l) from rbody_lt hok)
  have HLb := Lib.hid hLb
  have hcl := rcommit_lt hml
  rw [h136] at h1 HS ⊢
  clear hm hmay hok hlm hLb h136 hd hd2
  go_enter Tryd.func4, Tryd.ntmps4
  go_wp2_with fail
  refine HLg.out.mono ?_
  rintro e w1 ⟨rfl, rfl⟩
  go_wp2_with fail
  refine (reads_any _ s _ (by omega) HW.out (by rw [H136.out]; exact HS.out) HG.out).mono ?_
  rintro e w1 ⟨rfl, hb⟩
  have HB1 := Lib.hid hb
  clear hb
  go_wp2_with fail
  refine (HM.out _ HB1.out).mono ?_
  rintro e w2 ⟨rfl, rfl⟩
  have HS1 := Lib.hid (HS.out.below HB1.out)
  go_wp2_with (at_builtin; refine copy64 rfl (.const (.slice none 0 0)) (.tmp 30) rfl rfl _ s 136 H136.out rfl HS1.out (by omega) ?_; intro A2 c2 w2 hown2 hb2; have Hown2 := Lib.hid hown2; have HB12 := Lib.hid hb2; clear hown2 hb2)
  refine (HBody.out _ (below_then HB1.out HB12.out)).mono ?_
  rintro e w3 ⟨A3, c3, rfl, hown3, hb3⟩
  have hown2 := own_below Hown2.out hb3
  have hown3' := hown3
  have HB13 := Lib.hid (below_then HB12.out hb3)
  obtain ⟨g2, cap2, hv2, hg2, hlt2⟩ := Hown2.out.form (by omega)
  injection hv2 with hA2 _ hc2
  subst hA2
  subst hc2
  obtain ⟨Hown2i, Hown3i⟩ : Hid (w3.ownsRow w1.heap.size 26 1 (.slice (some ⟨g2, 0, none⟩) 136 c2) 136 (u64s s)) ∧ Hid (w3.ownsRow w2.heap.size 26 1 (.slice A3 m c3) m (u64s (rbody l))) := ⟨Lib.hid hown2, Lib.hid hown3⟩
  clear hown2 hown3 hown3' hb3 Hown2
  go_wp2
  go_loopw [9] (fun i wr => ∃ j : Nat, j ≤ m ∧ i = .int .i64 j ∧ wr.ownsRow w1.heap.size 26 1 (.slice (some ⟨g2, 0, none⟩) 136 c2) 136 (u64s (putTo s 8 (rbody l) j)) ∧ wr.ownsRow w2.heap.size 26 1 (.slice A3 m c3) m (u64s (rbody l)) ∧ Below w1.heap.size w1 wr) (fun i _ => m - (intOf i).toNat)
  case atStart => exact ⟨0, by omega, rfl, Hown2i.out, Hown3i.out, HB13.out⟩
  case round =>
    obtain ⟨j, hj, rfl, hown, hbody, hb⟩ := hrel
    by_cases hlt : j < m
    · have hjl : j < (rbody l).length := by rw [HLb.out]; exact hlt
      obtain ⟨b, o, rfl, q1⟩ := (Rd.of_own hbody).at_ (u64s_at (l := rbody l) (k := j) hjl)
      have hst : (putTo s 8 (rbody l) j).set (8 + j) (rbody l)[j] = putTo s 8 (rbody l) (j + 1) := by
        show _ = (putTo s 8 (rbody l) j).set (8 + j) ((rbody l).getD j 0)
        simp [List.getD, hjl]
      generalize (rbody l)[j] = y at *
      have hlp : (putTo s 8 (rbody l) j).length = 136 := by rw [putTo_length]; exact H136.out
      have hz := hown.cellAt (8 + j) (by omega)
      obtain ⟨z, hz'⟩ : ∃ z, (u64s (putTo s 8 (rbody l) j))[8 + j]? = some z := ⟨_, u64s_at (by rw [hlp]; omega)⟩
      rw [hz'] at hz
      have hf := hown.frozenAt (8 + j)
      have hs := (hown.stored (8 + j) (.int .u64 (y : Nat))).1
      rw [u64s_setN, hst] at hs
      have Hs := Lib.hid hs
      have Hb := Lib.hid hb
      have Hbd := Lib.hid hbody
      have hlt' : (j : Int) < (m : Int) := by omega
      have h8 : (8 : Int) + (j : Int) < 136 := by omega
      have h8' : 8 + j < 136 := by omega
      clear hst hs hown hbody hb hlp hz' hjl
      go_wp2
      go_roundw
      case rel => exact ⟨j + 1, by omega, by go_num, Hs.out, ownsRow_setCell_below Hbd.out (a := ⟨g2, 8 + j, none⟩) hlt2 _, Hb.out.setCell (p := ⟨g2, 8 + j, none⟩) hg2 _⟩
      case measure => simp [intOf]; omega
    · obtain rfl : j = m := by omega
      have Hown := Lib.hid hown
      have Hb := Lib.hid hb
      clear hown hb hbody
      go_wp2_with fail
      refine (refCommit_any v' l _ (HR.out.below (below_then HB1.out Hb.out)) HOk.out hml).mono ?_
      rintro e w5 ⟨rfl, hb5⟩
      have HB5 := Lib.hid (below_then Hb.out hb5)
      have hown := own_below Hown.out hb5
      have hlp : (putTo s 8 (rbody l) j).length = 136 := by rw [putTo_length]; exact H136.out
      have hwp := putTo_wd HW.out HWb.out 8 j
      have hz := hown.cellAt 0 (by omega)
      obtain ⟨z, hz'⟩ : ∃ z, (u64s (putTo s 8 (rbody l) j))[0]? = some z := ⟨_, u64s_at (by rw [hlp]; omega)⟩
      rw [hz'] at hz
      have hf := hown.frozenAt 0
      have hxo := u64_xor_nat (rcommit l) by_ hcl hby
      have hxl : rcommit l ^^^ by_ < 18446744073709551616 := Nat.xor_lt_two_pow (n := 64) hcl hby
      generalize rcommit l ^^^ by_ = cx at *
      have hs := (hown.stored 0 (.int .u64 (cx : Nat))).1
      rw [u64s_setN] at hs
      have hwd2 : Wd ((putTo s 8 (rbody l) j).set 0 cx) := fun x hx => by
        rcases List.mem_or_eq_of_mem_set hx with hx | rfl
        · exact hwp x hx
        · exact hxl
      have hl2 : ((putTo s 8 (rbody l) j).set 0 cx).length = 136 := by rw [List.length_set]; exact hlp
      generalize (putTo s 8 (rbody l) j).set 0 cx = X at *
      have Hrd := Lib.hid (Rd.of_own hs)
      have Hwd := Lib.hid hwd2
      have Hl2 := Lib.hid hl2
      clear hb5 hown hlp hwp hz' hs hwd2 hl2
      have HB6 := Lib.hid (below_then HB1.out (HB5.out.setCell (p := ⟨g2, 0, none⟩) hg2 (.int .u64 (cx : Nat))))
      go_wp2_with fail
      refine (reads_any _ X _ (by rw [Hl2.out]; omega) Hwd.out (by rw [Hl2.out]; exact Hrd.out) (HG.out.below HB6.out)).mono ?_
      rintro e w7 ⟨rfl, hb7⟩
      have HB7 := Lib.hid (below_then HB6.out hb7)
      clear hb7
      go_wp2_with fail
      refine (HA.out _ HB7.out).mono ?_
      rintro e w8 ⟨rfl, hb8⟩
      have HB8 := Lib.hid (below_then HB7.out hb8)
      clear hb8
      go_wp2
      go_ret
      exact ⟨rfl, HB8.out⟩
end Go.Proofs.YtlfnpjdnfkcigaaDoor
