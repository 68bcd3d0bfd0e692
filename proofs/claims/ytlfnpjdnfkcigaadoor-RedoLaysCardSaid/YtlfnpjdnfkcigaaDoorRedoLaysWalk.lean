/- The walk of the law RedoLays. -/
import Derived.Test.YtlfnpjdnfkcigaaDoorRedoK
namespace Go.Proofs.YtlfnpjdnfkcigaaDoor
open Go.RowKit
set_option linter.unusedVariables false

set_option maxRecDepth 100000 in
set_option maxHeartbeats 8000000 in
theorem redoLays_walk (w : World) (hg : Laid w) (v : Value) (l : List Rdo) (hl : ∀ r ∈ l, OkR r) (hr : Rd w v l.length (rcells l)) :
    Calls Tryd.prog 3 #[v] w fun e w' => e = .returned (.bool true) ∧ Below w.heap.size w w' := by
  have HR := Lib.hid hr
  have HO := Lib.hid hl
  have HG := Lib.hid hg
  have hLg := large_any v l w hr
  have HA := Lib.hid (fun W (hW : Below w.heap.size w W) => alive_any W (HG.out.below hW))
  by_cases hbig : 300 < l.length
  · rw [decide_eq_true hbig] at hLg
    have HLg := Lib.hid hLg
    clear hbig hLg hl hg
    go_enter Tryd.func3, Tryd.ntmps3
    go_wp2_with fail
    refine HLg.out.mono ?_
    rintro e w1 ⟨rfl, rfl⟩
    go_wp2_with fail
    refine (HA.out _ (Below.refl _ _)).mono ?_
    rintro e w1 ⟨rfl, hb⟩
    have HB := Lib.hid hb
    clear hb
    go_wp2
    go_ret
    exact ⟨rfl, HB.out⟩
  rw [decide_eq_false hbig] at hLg
  have HLg := Lib.hid hLg
  have hlb : l.length ≤ 300 := by omega
  have HM := Lib.hid (fun W (hW : Below w.heap.size w W) => refMay_any v l W (HR.out.below hW))
  clear hbig hLg hl hg hr
  go_enter Tryd.func3, Tryd.ntmps3
  go_wp2_with fail
  refine HLg.out.mono ?_
  rintro e w1 ⟨rfl, rfl⟩
  go_wp2_with (at_builtin; refine copyR rfl (.const (.slice none 0 0)) (.tmp 11) rfl rfl _ l _ rfl rfl HR.out (by omega) ?_; intro A1 c1 w1 hown1 hb1; have HR1 := Lib.hid (Rd.of_own hown1); have HB1 := Lib.hid hb1; clear hown1 hb1)
  refine (Lay_n _ l (l.length * 2) rfl _ HR1.out HO.out).mono ?_
  rintro e w2 (⟨hm, A2, c2, rfl, ho2, hb2⟩ | ⟨hm, rfl, hb2⟩)
  · have HB2 := Lib.hid (below_then HB1.out hb2)
    have HB12 := Lib.hid hb2
    have HO2 := Lib.hid ho2
    have Hm := Lib.hid hm
    obtain ⟨hml, hmay⟩ := mayE_ok.1 hm
    have hlb2 := rbody_length l
    have HMay := Lib.hid hmay
    rw [hm] at HM
    clear hm hb2 ho2 hmay
    obtain ⟨m, hm⟩ : ∃ m, m = l.length * 2 := ⟨_, rfl⟩
    rw [← hm] at HO2 ⊢
    have HLM := Lib.hid hm
    clear hm
    go_wp2_with fail
    refine (HM.out _ HB2.out).mono ?_
    rintro e w3 ⟨rfl, rfl⟩
    go_wp2_with fail
    refine (refBody_any v l _ (HR.out.below HB2.out) HMay.out hml).mono ?_
    rintro e w3 ⟨A3, c3, rfl, ho3, hb3⟩
    have hlm : l.length * 2 = m := by exact HLM.out.symm
    rw [hlm] at ho3 ⊢
    have HB3 := Lib.hid (below_then HB2.out hb3)
    have HB13 := Lib.hid (below_then HB12.out hb3)
    have HRb := Lib.hid ((Rd.of_own HO2.out).below hb3)
    have HRc := Lib.hid (Rd.of_own ho3)
    have HLb := Lib.hid (hlb2.trans hlm)
    clear hb3 ho3 hlm hlb2
    go_wp2_with fail
    refine (sameW_yes _ _ (rbody l) m HLb.out _ HRb.out HRc.out).mono ?_
    rintro e w4 ⟨rfl, hb4⟩
    have HB4 := Lib.hid (below_then HB3.out hb4)
    have HB14 := Lib.hid (below_then HB13.out hb4)
    clear hb4
    go_wp2_with fail
    refine (refCommit_any v l _ (HR.out.below HB4.out) (fun r h => ⟨HMay.out r h, (HO.out r h).2⟩) hml).mono ?_
    rintro e w5 ⟨rfl, hb5⟩
    have HB5 := Lib.hid (below_then HB4.out hb5)
    have HB15 := Lib.hid (below_then HB14.out hb5)
    clear hb5
    go_wp2_with fail
    refine (refSame_yes _ v l _ (HR1.out.below HB15.out) (HR.out.below HB5.out)).mono ?_
    rintro e w6 ⟨rfl, hb6⟩
    have HB6 := Lib.hid (below_then HB5.out hb6)
    clear hb6
    go_wp2_with fail
    refine (HA.out _ HB6.out).mono ?_
    rintro e w7 ⟨rfl, hb7⟩
    have HB7 := Lib.hid (below_then HB6.out hb7)
    clear hb7
    go_wp2
    go_ret
    exact ⟨rfl, HB7.out⟩
  · have HB2 := Lib.hid (below_then HB1.out hb2)
    clear hb2
    generalize mayE l = q at *
    have hne : (q != 0) = true := by simpa using hm
    clear hm
    go_wp2_with fail
    refine (HM.out _ HB2.out).mono ?_
    rintro e w3 ⟨rfl, rfl⟩
    go_wp2_with fail
    refine (HA.out _ HB2.out).mono ?_
    rintro e w7 ⟨rfl, hb7⟩
    have HB7 := Lib.hid (below_then HB2.out hb7)
    clear hb7
    go_wp2
    go_ret
    exact ⟨rfl, HB7.out⟩
end Go.Proofs.YtlfnpjdnfkcigaaDoor
