/- The walk of the law RedoApplies. -/
import Derived.Test.YtlfnpjdnfkcigaaDoorRedoK
namespace Go.Proofs.YtlfnpjdnfkcigaaDoor
open Go.RowKit
set_option linter.unusedVariables false

set_option maxRecDepth 100000 in
set_option maxHeartbeats 8000000 in
theorem redoApplies_walk (w : World) (hg : Laid w) (v : Value) (K : List Nat) (hs : ∀ x ∈ K, x < 2 ^ 64) (hr : Rd w v K.length (u64s K)) (v' : Value) (l : List Rdo) (hl : ∀ r ∈ l, OkR r) (hr' : Rd w v' l.length (rcells l)) :
    Calls Tryd.prog 5 #[v, v'] w fun e w' => e = .returned (.bool true) ∧ Below w.heap.size w w' := by
  have HS := Lib.hid hr
  have HR := Lib.hid hr'
  have HG := Lib.hid hg
  have hLg := large_any v' l w hr'
  have HA := Lib.hid (fun W (hW : Below w.heap.size w W) => alive_any W (HG.out.below hW))
  obtain ⟨A, c, rfl, h1, h2, h3⟩ := hr
  unfold maxLen at h2
  clear h3 hl hg hs hr'
  by_cases hbs : 300 < K.length
  · have hd : decide ((300 : Int) < (K.length : Int)) = true := by simp; omega
    clear hbs hLg
    go_enter Tryd.func5, Tryd.ntmps5
    go_wp2_with fail
    refine (HA.out _ (Below.refl _ _)).mono ?_
    rintro e w1 ⟨rfl, hb⟩
    have HB := Lib.hid hb
    clear hb
    go_wp2
    go_ret
    exact ⟨rfl, HB.out⟩
  have hd : decide ((300 : Int) < (K.length : Int)) = false := by simp; omega
  have hsb : K.length ≤ 300 := by omega
  by_cases hbig : 300 < l.length
  · rw [decide_eq_true hbig] at hLg
    have HLg := Lib.hid hLg
    clear hbig hLg hbs
    go_enter Tryd.func5, Tryd.ntmps5
    go_wp2_with fail
    refine HLg.out.mono ?_
    rintro e w1 ⟨rfl, rfl⟩
    go_wp2_with fail
    refine (HA.out _ (Below.refl _ _)).mono ?_
    rintro e w1 ⟨rfl, hb⟩
    have HB := Lib.hid hb
    clear hb
    go_wp2
    go_ret
    exact ⟨rfl, HB.out⟩
  rw [decide_eq_false hbig] at hLg
  have HLg := Lib.hid hLg
  have hlb : l.length ≤ 300 := by omega
  clear hbig hLg hbs
  go_enter Tryd.func5, Tryd.ntmps5
  go_wp2_with fail
  refine HLg.out.mono ?_
  rintro e w1 ⟨rfl, rfl⟩
  go_wp2_with (first
    | (at_builtin; refine copy64 rfl (.const (.slice none 0 0)) (.tmp 19) rfl rfl _ K K.length rfl rfl HS.out (by omega) ?_; intro A1 c1 w1 hown1 hb1; have HK1 := Lib.hid (Rd.of_own hown1); have HB1 := Lib.hid hb1; have HRl := Lib.hid (HR.out.below hb1); clear hown1 hb1)
    | (at_builtin; refine copyR rfl (.const (.slice none 0 0)) (.tmp 21) rfl rfl _ l l.length rfl rfl HRl.out (by omega) ?_; intro A2 c2 w2 hown2 hb2; have HR2 := Lib.hid (Rd.of_own hown2); have HB2 := Lib.hid (below_then HB1.out hb2); have HK2 := Lib.hid (HK1.out.below hb2); clear hown2 hb2))
  have HRef := Lib.hid (fun W (hW : Below w.heap.size w W) => refApply_any _ v' K l W (HS.out.below hW) (by omega) (HR.out.below hW))
  refine (Apply_any _ _ K l _ HK2.out (by omega) HR2.out).mono ?_
  rintro e w3 (⟨hf, A3, c3, rfl, ho3, hb3⟩ | ⟨hf, rfl, hb3⟩)
  · have HF := Lib.hid hf
    have HB3 := Lib.hid (below_then HB2.out hb3)
    have HB23 := Lib.hid hb3
    have HO3 := Lib.hid ho3
    clear hf hb3 ho3
    go_wp2_with fail
    refine (HRef.out _ HB3.out).mono ?_
    rintro e w4 (⟨_, A4, c4, rfl, ho4, hb4⟩ | ⟨hf, _⟩)
    · have HB4 := Lib.hid (below_then HB3.out hb4)
      have HB24 := Lib.hid (below_then HB23.out hb4)
      have HX3 := Lib.hid ((Rd.of_own HO3.out).below hb4)
      have HX4 := Lib.hid (Rd.of_own ho4)
      clear hb4 ho4
      go_wp2_with fail
      refine (sameW_yes _ _ (rapply K l) K.length (rapply_length l K) _ HX3.out HX4.out).mono ?_
      rintro e w5 ⟨rfl, hb5⟩
      have HB5 := Lib.hid (below_then HB4.out hb5)
      have HB25 := Lib.hid (below_then HB24.out hb5)
      clear hb5
      go_wp2_with fail
      refine (sameW_yes _ _ K K.length rfl _ (HK2.out.below HB25.out) (HS.out.below HB5.out)).mono ?_
      rintro e w6 ⟨rfl, hb6⟩
      have HB6 := Lib.hid (below_then HB5.out hb6)
      have HB26 := Lib.hid (below_then HB25.out hb6)
      clear hb6
      go_wp2_with fail
      refine (refSame_yes _ v' l _ (HR2.out.below HB26.out) (HR.out.below HB6.out)).mono ?_
      rintro e w7 ⟨rfl, hb7⟩
      have HB7 := Lib.hid (below_then HB6.out hb7)
      clear hb7
      go_wp2_with fail
      refine (HA.out _ HB7.out).mono ?_
      rintro e w8 ⟨rfl, hb8⟩
      have HB8 := Lib.hid (below_then HB7.out hb8)
      clear hb8
      go_wp2
      go_ret
      exact ⟨rfl, HB8.out⟩
    · exact absurd HF.out hf
  · have HF := Lib.hid hf
    have HB3 := Lib.hid (below_then HB2.out hb3)
    have HB23 := Lib.hid hb3
    clear hf hb3
    go_wp2_with fail
    refine (HRef.out _ HB3.out).mono ?_
    rintro e w4 (⟨hf, _⟩ | ⟨_, rfl, hb4⟩)
    · exact absurd hf HF.out
    · have HB4 := Lib.hid (below_then HB3.out hb4)
      have HB24 := Lib.hid (below_then HB23.out hb4)
      clear hb4
      go_wp2_with fail
      refine (sameW_yes _ _ [] 0 rfl _ (Rd.nil _) (Rd.nil _)).mono ?_
      rintro e w5 ⟨rfl, hb5⟩
      have HB5 := Lib.hid (below_then HB4.out hb5)
      have HB25 := Lib.hid (below_then HB24.out hb5)
      clear hb5
      go_wp2_with fail
      refine (sameW_yes _ _ K K.length rfl _ (HK2.out.below HB25.out) (HS.out.below HB5.out)).mono ?_
      rintro e w6 ⟨rfl, hb6⟩
      have HB6 := Lib.hid (below_then HB5.out hb6)
      have HB26 := Lib.hid (below_then HB25.out hb6)
      clear hb6
      go_wp2_with fail
      refine (refSame_yes _ v' l _ (HR2.out.below HB26.out) (HR.out.below HB6.out)).mono ?_
      rintro e w7 ⟨rfl, hb7⟩
      have HB7 := Lib.hid (below_then HB6.out hb7)
      clear hb7
      go_wp2_with fail
      refine (HA.out _ HB7.out).mono ?_
      rintro e w8 ⟨rfl, hb8⟩
      have HB8 := Lib.hid (below_then HB7.out hb8)
      clear hb8
      go_wp2
      go_ret
      exact ⟨rfl, HB8.out⟩
end Go.Proofs.YtlfnpjdnfkcigaaDoor
