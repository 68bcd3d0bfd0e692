/- The walk of the law RedoBack. -/
import Derived.Test.YtlfnpjdnfkcigaaDoorRedoK
namespace Go.Proofs.YtlfnpjdnfkcigaaDoor
open Go.RowKit
set_option linter.unusedVariables false

theorem u64s_setN (l : List Nat) (k x : Nat) : (u64s l).set k (.int .u64 (x : Nat)) = u64s (l.set k x) := by simp [u64s, List.map_set]
theorem mayE_long {l : List Rdo} (h : 64 < l.length) : mayE l = 5 := by unfold mayE; rw [if_pos h]
theorem mayE_arg {l : List Rdo} (h : ¬ 64 < l.length) (h0 : mayE l ≠ 0) : mayE l = 2 := by
  by_cases h2 : ∀ r ∈ l, mayOne r
  · exact absurd (mayE_ok.2 ⟨by omega, h2⟩) h0
  · unfold mayE
    rw [if_neg h, if_neg h2]

set_option maxRecDepth 100000 in
set_option maxHeartbeats 16000000 in
theorem redoBack_walk (w : World) (hg : Laid w) (v : Value) (l : List Rdo) (hl : ∀ r ∈ l, OkR r) (hr : Rd w v l.length (rcells l)) (vs : Value) (s : List Nat) (hs : ∀ x ∈ s, x < 2 ^ 64) (hrs : Rd w vs s.length (u64s s)) (vk : Value) (K : List Nat) (hk : ∀ x ∈ K, x < 2 ^ 64) (hrk : Rd w vk K.length (u64s K)) :
    Calls Tryd.prog 6 #[v, vs, vk] w fun e w' => e = .returned (.bool true) ∧ Below w.heap.size w w' := by
  have HR := Lib.hid hr
  have HS := Lib.hid hrs
  have HW := Lib.hid (show Wd s from hs)
  have HK := Lib.hid hrk
  have HO := Lib.hid hl
  have HG := Lib.hid hg
  have hLg := large_any v l w hr
  have HA := Lib.hid (fun W (hW : Below w.heap.size w W) => alive_any W (HG.out.below hW))
  obtain ⟨Av, cv, rfl, h1, h2, h3⟩ := hr
  obtain ⟨As, cs, rfl, hs1, hs2, hs3⟩ := hrs
  obtain ⟨Ak, ck, rfl, hk1, hk2, hk3⟩ := hrk
  unfold maxLen at h2 hs2 hk2
  clear h3 hs3 hk3 hl hg hs hk
  by_cases hbig : 300 < l.length
  · rw [decide_eq_true hbig] at hLg
    have HLg := Lib.hid hLg
    clear hbig hLg
    go_enter Tryd.func6, Tryd.ntmps6
    go_wp2_with fail
    refine HLg.out.mono ?_
    rintro e w1 ⟨rfl, rfl⟩
    go_wp2_with fail
    refine (HA.out _ (Below.refl _ _)).mono ?_
    rintro e w1 ⟨rfl, hb⟩
    have HB := Lib.hid hb
    clear hb
    go_wp2
    go_ret
    exact ⟨rfl, HB.out⟩
  rw [decide_eq_false hbig] at hLg
  have HLg := Lib.hid hLg
  have hlb : l.length ≤ 300 := by omega
  clear hbig hLg
  by_cases h136 : s.length = 136
  case neg =>
    have hd2 : ((s.length : Int) != 136) = true := by simp; omega
    clear h136
    go_enter Tryd.func6, Tryd.ntmps6
    go_wp2_with fail
    refine HLg.out.mono ?_
    rintro e w1 ⟨rfl, rfl⟩
    go_wp2_with fail
    refine (HA.out _ (Below.refl _ _)).mono ?_
    rintro e w1 ⟨rfl, hb⟩
    have HB := Lib.hid hb
    clear hb
    go_wp2
    go_ret
    exact ⟨rfl, HB.out⟩
  have H136 := Lib.hid h136
  rw [h136] at hs1 HS ⊢
  clear h136
  by_cases hbk : 300 < K.length
  · have hd : decide ((300 : Int) < (K.length : Int)) = true := by simp; omega
    clear hbk
    go_enter Tryd.func6, Tryd.ntmps6
    go_wp2_with fail
    refine HLg.out.mono ?_
    rintro e w1 ⟨rfl, rfl⟩
    go_wp2_with fail
    refine (HA.out _ (Below.refl _ _)).mono ?_
    rintro e w1 ⟨rfl, hb⟩
    have HB := Lib.hid hb
    clear hb
    go_wp2
    go_ret
    exact ⟨rfl, HB.out⟩
  have hd : decide ((300 : Int) < (K.length : Int)) = false := by simp; omega
  have hkb : K.length ≤ 300 := by omega
  clear hbk
  obtain ⟨m, hlm⟩ : ∃ m, m = l.length * 2 := ⟨_, rfl⟩
  have HLay := Lib.hid (Lay_n (.slice Av l.length cv) l m hlm.symm w HR.out HO.out)
  by_cases hm : mayE l = 0
  case neg =>
    by_cases hlong : 64 < l.length
    · have hE := mayE_long hlong
      have hdl : decide ((64 : Int) < (l.length : Int)) = true := by simp; omega
      clear hlong
      go_enter Tryd.func6, Tryd.ntmps6
      go_wp2_with fail
      refine HLg.out.mono ?_
      rintro e w1 ⟨rfl, rfl⟩
      go_wp2_with fail
      refine HLay.out.mono ?_
      rintro e w2 (⟨h0, _⟩ | ⟨_, rfl, hb2⟩)
      · exact absurd h0 hm
      · rw [hE]
        have HB2 := Lib.hid hb2
        clear hb2 hE hm
        go_wp2_with fail
        refine (HA.out _ HB2.out).mono ?_
        rintro e w3 ⟨rfl, hb⟩
        have HB := Lib.hid (below_then HB2.out hb)
        clear hb
        go_wp2
        go_ret
        exact ⟨rfl, HB.out⟩
    · have hE := mayE_arg hlong hm
      have hdl : decide ((64 : Int) < (l.length : Int)) = false := by simp; omega
      clear hlong
      go_enter Tryd.func6, Tryd.ntmps6
      go_wp2_with fail
      refine HLg.out.mono ?_
      rintro e w1 ⟨rfl, rfl⟩
      go_wp2_with fail
      refine HLay.out.mono ?_
      rintro e w2 (⟨h0, _⟩ | ⟨_, rfl, hb2⟩)
      · exact absurd h0 hm
      · rw [hE]
        have HB2 := Lib.hid hb2
        clear hb2 hE hm
        go_wp2_with fail
        refine (HA.out _ HB2.out).mono ?_
        rintro e w3 ⟨rfl, hb⟩
        have HB := Lib.hid (below_then HB2.out hb)
        clear hb
        go_wp2
        go_ret
        exact ⟨rfl, HB.out⟩
  have Hm := Lib.hid hm
  obtain ⟨hml, hmay⟩ := mayE_ok.1 hm
  have HMay := Lib.hid hmay
  have HWb := Lib.hid (show Wd (rbody l) from rbody_lt (fun r h => ⟨hmay r h, (HO.out r h).2⟩))
  have HLb := Lib.hid ((rbody_length l).trans hlm.symm)
  have hm128 : m ≤ 128 := by omega
  have hlm2 : ((m : Int) != 2 * (l.length : Int)) = false := by simp; omega
  have hd8 : decide ((136 : Int) < 8 + (m : Int)) = false := by simp; omega
  have HLM := Lib.hid hlm
  have hcl := rcommit_lt hml
  have hc0 : ((rcommit l : Int) == 0) = false := by have := rcommit_pos l; simp; omega
  obtain ⟨c0, hc⟩ : ∃ c0, c0 = rcommit l := ⟨_, rfl⟩
  rw [← hc] at HLay hcl hc0
  have Hc := Lib.hid hc
  clear hm hmay hlm hc
  go_enter Tryd.func6, Tryd.ntmps6
  go_wp2_with fail
  refine HLg.out.mono ?_
  rintro e w1 ⟨rfl, rfl⟩
  go_wp2_with fail
  refine HLay.out.mono ?_
  rintro e w2 (⟨_, A2, c2, rfl, ho2, hb2⟩ | ⟨h0, _⟩)
  case inr => exact absurd Hm.out h0
  have HB2 := Lib.hid hb2
  have HRb := Lib.hid (Rd.of_own ho2)
  have HS2 := Lib.hid (HS.out.below hb2)
  clear hb2 ho2
  go_wp2_with (at_builtin; refine copy64 rfl (.const (.slice none 0 0)) (.tmp 78) rfl rfl _ s 136 H136.out rfl HS2.out (by omega) ?_; intro A3 c3 w3 hown3 hb3; obtain ⟨g3, cap3, hv3, hg3, hlt3⟩ := hown3.form (by omega); injection hv3 with hA3 _ hc3; subst hA3; subst hc3; obtain ⟨z, hz'⟩ : ∃ z, (u64s s)[0]? = some z := ⟨_, u64s_at (by rw [H136.out]; omega)⟩; have hz := hown3.cellAt 0 (by omega); rw [hz'] at hz; have hf := hown3.frozenAt 0; have hs := (hown3.stored 0 (.int .u64 (c0 : Nat))).1; rw [u64s_setN] at hs; have Hs3 := Lib.hid hs; have HB3 := Lib.hid hb3; clear hown3 hb3 hz' hs)
  go_loopw [11] (fun i wr => ∃ j : Nat, j ≤ m ∧ i = .int .i64 j ∧ wr.ownsRow w2.heap.size 26 1 (.slice (some ⟨g3, 0, none⟩) 136 c3) 136 (u64s (putTo (s.set 0 c0) 8 (rbody l) j)) ∧ Below w2.heap.size w2 wr) (fun i _ => m - (intOf i).toNat)
  case atStart => exact ⟨0, by omega, rfl, Hs3.out, HB3.out.setCell (p := ⟨g3, 0, none⟩) hg3 _⟩
  case round =>
    obtain ⟨j, hj, rfl, hown, hb⟩ := hrel
    have hlp : (putTo (s.set 0 c0) 8 (rbody l) j).length = 136 := by rw [putTo_length, List.length_set]; exact H136.out
    clear hf hz hlt3
    by_cases hlt : j < m
    · have hjl : j < (rbody l).length := by rw [HLb.out]; exact hlt
      obtain ⟨b, o, rfl, q1⟩ := (HRb.out.below hb).at_ (u64s_at (l := rbody l) (k := j) hjl)
      have hst : (putTo (s.set 0 c0) 8 (rbody l) j).set (8 + j) (rbody l)[j] = putTo (s.set 0 c0) 8 (rbody l) (j + 1) := by
        show _ = (putTo (s.set 0 c0) 8 (rbody l) j).set (8 + j) ((rbody l).getD j 0)
        simp [List.getD, hjl]
      generalize (rbody l)[j] = y at *
      have hz := hown.cellAt (8 + j) (by omega)
      obtain ⟨z, hz'⟩ : ∃ z, (u64s (putTo (s.set 0 c0) 8 (rbody l) j))[8 + j]? = some z := ⟨_, u64s_at (by rw [hlp]; omega)⟩
      rw [hz'] at hz
      have hf := hown.frozenAt (8 + j)
      have hs := (hown.stored (8 + j) (.int .u64 (y : Nat))).1
      rw [u64s_setN, hst] at hs
      have Hs := Lib.hid hs
      have Hb := Lib.hid hb
      have hlt' : (j : Int) < (m : Int) := by omega
      have h8 : (8 : Int) + (j : Int) < 136 := by omega
      have h8' : 8 + j < 136 := by omega
      clear hst hs hown hb hlp hz' hjl
      go_wp2
      go_roundw
      case rel => exact ⟨j + 1, by omega, by go_num, Hs.out, Hb.out.setCell (p := ⟨g3, 8 + j, none⟩) hg3 _⟩
      case measure => simp [intOf]; omega
    · obtain rfl : j = m := by omega
      have HRx := Lib.hid (Rd.of_own hown)
      have HBx := Lib.hid (below_then HB2.out hb)
      have hx0 : (putTo (s.set 0 c0) 8 (rbody l) j).getD 0 0 = rcommit l := by
        rw [put_first _ _ (by rw [List.length_set]; exact H136.out), getD_set _ _ _ _ (by rw [H136.out]; omega), if_pos rfl]
        exact Hc.out
      have hxl := put_laid (s := s.set 0 c0) hml (by rw [List.length_set]; exact H136.out)
      rw [HLb.out] at hxl
      have hxw := putTo_wd (s := s.set 0 c0) (b := rbody l) (fun x hx => by
        rcases List.mem_or_eq_of_mem_set hx with hx | rfl
        · exact HW.out x hx
        · exact hcl) HWb.out 8 j
      have HRead := Lib.hid (Read_laid _ _ l _ hlp hxw HRx.out hx0 hxl Hm.out)
      clear hown hb hlp hx0 hxl hxw HRx
      go_wp2_with fail
      refine HRead.out.mono ?_
      rintro e w5 ⟨A5, c5, rfl, ho5, hb5⟩
      have HB5 := Lib.hid (below_then HBx.out hb5)
      have HR5 := Lib.hid (Rd.of_own ho5)
      clear hb5 ho5 HRead
      go_wp2_with fail
      refine (refSame_yes _ (.slice Av l.length cv) l _ HR5.out (HR.out.below HB5.out)).mono ?_
      rintro e w6 ⟨rfl, hb6⟩
      have HB6 := Lib.hid (below_then HB5.out hb6)
      have HR6 := Lib.hid (HR5.out.below hb6)
      clear hb6
      go_wp2_with fail
      refine (Apply_any _ _ K l _ (HK.out.below HB6.out) (by omega) HR6.out).mono ?_
      rintro e w7 (⟨hfit, A7, c7, rfl, ho7, hb7⟩ | ⟨_, rfl, hb7⟩)
      case inr =>
        have HB7 := Lib.hid (below_then HB6.out hb7)
        clear hb7
        go_wp2_with fail
        refine (HA.out _ HB7.out).mono ?_
        rintro e w8 ⟨rfl, hb⟩
        have HB := Lib.hid (below_then HB7.out hb)
        clear hb
        go_wp2
        go_ret
        exact ⟨rfl, HB.out⟩
      have HF := Lib.hid hfit
      have HB7 := Lib.hid (below_then HB6.out hb7)
      have HX7 := Lib.hid (Rd.of_own ho7)
      have HR7 := Lib.hid (HR6.out.below hb7)
      have hxl := rapply_length l K
      have Hxl := Lib.hid hxl
      clear hfit hb7 ho7
      have hap := Apply_any (.slice A7 K.length c7) (.slice A5 l.length c5) (rapply K l) l w7 (by rw [hxl]; exact HX7.out) (by omega) HR7.out
      unfold ApplyOut at hap
      rw [rapply_twice, hxl] at hap
      have HAp := Lib.hid hap
      clear hap hxl
      go_wp2_with fail
      refine HAp.out.mono ?_
      rintro e w8 (⟨_, A8, c8, rfl, ho8, hb8⟩ | ⟨hf8, _⟩)
      case inr => exact absurd HF.out hf8
      have HB8 := Lib.hid (below_then HB7.out hb8)
      have HX8 := Lib.hid (HX7.out.below hb8)
      have HY8 := Lib.hid (Rd.of_own ho8)
      clear hb8 ho8 HAp
      go_wp2_with fail
      refine (sameW_yes _ _ (rapply K l) K.length Hxl.out _ HX8.out HY8.out).mono ?_
      rintro e w9 ⟨rfl, hb9⟩
      have HB9 := Lib.hid (below_then HB8.out hb9)
      have HX9 := Lib.hid (HX8.out.below hb9)
      have HK9 := Lib.hid (HK.out.below HB9.out)
      have HR9 := Lib.hid (HR.out.below HB9.out)
      clear hb9
      go_wp2
      clear hd8 hlm2 hc0 hcl hm128 hd
      go_loop [19] (fun i => ∃ at_ : Nat, at_ ≤ K.length ∧ i = .int .i64 at_) (fun i => K.length - (intOf i).toNat)
      case atStart => exact ⟨0, by omega, rfl⟩
      case round =>
        obtain ⟨at_, hat, rfl⟩ := hrel
        by_cases hlt2 : at_ < K.length
        · obtain ⟨bk, ok, rfl, qk⟩ := HK9.out.at_ (u64s_at (l := K) (k := at_) hlt2)
          have hxa : at_ < (rapply K l).length := by rw [Hxl.out]; exact hlt2
          obtain ⟨bx, ox, rfl, qx⟩ := HX9.out.at_ (u64s_at (l := rapply K l) (k := at_) hxa)
          have hval : (rapply K l)[at_] = lastOf at_ K[at_] l := by
            have := rapply_getD l K at_ hlt2
            simpa [List.getD, hxa, hlt2] using this
          rw [hval] at qx
          generalize K[at_] = k0 at *
          have hlt2' : (at_ : Int) < (K.length : Int) := by omega
          clear hval hxa
          go_wp2
          go_loop [20, 21] (fun t i => ∃ j : Nat, j ≤ l.length ∧ i = .int .i64 j ∧ t = .int .u64 (lastOf at_ k0 (l.take j) : Nat)) (fun _ i => l.length - (intOf i).toNat)
          case atStart => exact ⟨0, by omega, rfl, rfl⟩
          case round =>
            obtain ⟨j2, hj2, rfl, rfl⟩ := hrel
            by_cases hlt3 : j2 < l.length
            · obtain ⟨bl, ol, rfl, hq⟩ := redo_cells HR9.out hlt3
              obtain ⟨q0, q1⟩ := hq _ (Below.refl _ _)
              have hst := lastOf_take at_ k0 l j2 hlt3
              have hm0 := (HMay.out _ (List.getElem_mem hlt3)).1
              generalize l[j2] = r at *
              obtain ⟨a, x⟩ := r
              dsimp only at q0 q1 hst hm0
              obtain ⟨n, rfl⟩ := Int.eq_ofNat_of_zero_le hm0
              rw [Int.toNat_natCast] at hst
              have hlt3' : (j2 : Int) < (l.length : Int) := by omega
              clear hm0 hq
              by_cases hna : n = at_
              · have heq : ((n : Int) == (at_ : Int)) = true := by simp; omega
                rw [if_pos hna] at hst
                have Hst := Lib.hid hst
                clear hst hna
                go_wp2
                go_round
                case rel => exact ⟨j2 + 1, by omega, by go_num, by rw [Hst.out]⟩
                case measure => simp [intOf]; omega
              · have heq : ((n : Int) == (at_ : Int)) = false := by simp; omega
                rw [if_neg hna] at hst
                have Hst := Lib.hid hst
                clear hst hna
                go_wp2
                go_round
                case rel => exact ⟨j2 + 1, by omega, by go_num, by rw [Hst.out]⟩
                case measure => simp [intOf]; omega
            · obtain rfl : j2 = l.length := by omega
              rw [List.take_length]
              generalize lastOf at_ k0 l = y at *
              go_wp2
              go_round
              case rel => exact ⟨at_ + 1, by omega, by go_num⟩
              case measure => simp [intOf]; omega
        · obtain rfl : at_ = K.length := by omega
          go_wp2_with fail
          refine (HA.out _ HB9.out).mono ?_
          rintro e w10 ⟨rfl, hb⟩
          have HB := Lib.hid (below_then HB9.out hb)
          clear hb
          go_wp2
          go_ret
          exact ⟨rfl, HB.out⟩
end Go.Proofs.YtlfnpjdnfkcigaaDoor
