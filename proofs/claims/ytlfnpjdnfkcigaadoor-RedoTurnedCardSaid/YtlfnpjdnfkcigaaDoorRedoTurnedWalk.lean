/- The walk of the law RedoTurned. -/
import Derived.Test.YtlfnpjdnfkcigaaDoorRedoK
namespace Go.Proofs.YtlfnpjdnfkcigaaDoor
open Go.RowKit
set_option linter.unusedVariables false

theorem u64s_setN (l : List Nat) (k x : Nat) : (u64s l).set k (.int .u64 (x : Nat)) = u64s (l.set k x) := by simp [u64s, List.map_set]
theorem xor_one (z r : Nat) (hz : z < 18446744073709551616) (hr : r < 64) : bits BinOp.xor IntKind.u64 (z : Int) (IntKind.u64.wrap (2 ^ r)) = ((z ^^^ 2 ^ r : Nat) : Int) := by
  have h2 : 2 ^ r < 18446744073709551616 := Nat.pow_lt_pow_right (a := 2) (n := 64) (by decide) hr
  have e : IntKind.u64.wrap (2 ^ r) = ((2 ^ r : Nat) : Int) := by
    rw [IntKind.wrap_u64, show ((2 : Int) ^ r) = ((2 ^ r : Nat) : Int) by simp]
    generalize 2 ^ r = q at *
    omega
  rw [e]
  exact u64_xor_nat z (2 ^ r) hz h2
theorem replicate_wd (n : Nat) : Wd (List.replicate n 0) := fun x hx => by rw [List.eq_of_mem_replicate hx]; decide
/-- the slot, the first j bits turned -/
def slotT (l : List Rdo) (K u j : Nat) : List Nat := putTo ((List.replicate 136 0).set 0 (rcommit l)) 8 (turnsTo (rbody l) K u j) (rbody l).length
theorem slotT_length (l : List Rdo) (K u j : Nat) : (slotT l K u j).length = 136 := by unfold slotT; rw [putTo_length, List.length_set, List.length_replicate]
theorem slotT_wd {l : List Rdo} (hc : rcommit l < 2 ^ 64) (hb : Wd (rbody l)) (K u j : Nat) : Wd (slotT l K u j) := by
  refine putTo_wd (fun x hx => ?_) (turnsTo_wd hb K u j) 8 _
  rcases List.mem_or_eq_of_mem_set hx with hx | rfl
  · exact replicate_wd 136 x hx
  · exact hc
theorem slotT_first (l : List Rdo) (K u j : Nat) : (slotT l K u j).getD 0 0 = rcommit l := by
  unfold slotT
  rw [put_first _ _ (by simp), getD_set _ _ _ _ (by simp), if_pos rfl]
/-- a bit turned -/
theorem slotT_turn (l : List Rdo) (K u j : Nat) (hl : l.length ≤ 64) (hk : (K + j) / 64 < (rbody l).length) (h : u / 2 ^ j % 2 = 1) :
    (slotT l K u j).set (8 + (K + j) / 64) ((slotT l K u j).getD (8 + (K + j) / 64) 0 ^^^ 2 ^ ((K + j) % 64)) = slotT l K u (j + 1) := by
  have hb := rbody_length l
  have e : turnsTo (rbody l) K u (j + 1) = turn (turnsTo (rbody l) K u j) (K + j) := by simp only [turnsTo]; rw [if_pos h]
  have hg : (slotT l K u j).getD (8 + (K + j) / 64) 0 = (turnsTo (rbody l) K u j).getD ((K + j) / 64) 0 := by
    unfold slotT
    rw [putTo_getD _ _ _ _ (by simp; omega), if_pos (by omega), show 8 + (K + j) / 64 - 8 = (K + j) / 64 by omega]
  rw [hg]
  unfold slotT
  rw [putTo_set _ _ _ _ _ _ hk (by rw [turnsTo_length]; exact Nat.le_refl _) (by simp; omega), e]
  rfl
theorem slotT_stay (l : List Rdo) (K u j : Nat) (h : ¬ u / 2 ^ j % 2 = 1) : slotT l K u (j + 1) = slotT l K u j := by
  unfold slotT
  simp only [turnsTo]
  rw [if_neg h]

set_option maxRecDepth 100000 in
set_option maxHeartbeats 16000000 in
theorem redoTurned_walk (w : World) (hg : Laid w) (v : Value) (l : List Rdo) (hl : ∀ r ∈ l, OkR r) (hr : Rd w v l.length (rcells l)) (at_ : Nat) (hat : at_ < 65536) (t : Nat) (ht : t < 4294967296) :
    Calls Tryd.prog 7 #[v, .int .u16 at_, .int .u32 t] w fun e w' => e = .returned (.bool true) ∧ Below w.heap.size w w' := by
  have HR := Lib.hid hr
  have HO := Lib.hid hl
  have HG := Lib.hid hg
  have hLg := large_any v l w hr
  have HA := Lib.hid (fun W (hW : Below w.heap.size w W) => alive_any W (HG.out.below hW))
  obtain ⟨Av, cv, rfl, h1, h2, h3⟩ := hr
  unfold maxLen at h2
  clear h3 hl hg
  by_cases hbig : 300 < l.length
  · rw [decide_eq_true hbig] at hLg
    have HLg := Lib.hid hLg
    clear hbig hLg
    go_enter Tryd.func7, Tryd.ntmps7
    go_wp2_with fail
    refine HLg.out.mono ?_
    rintro e w1 ⟨rfl, rfl⟩
    go_wp2_with fail
    refine (HA.out _ (Below.refl _ _)).mono ?_
    rintro e w1 ⟨rfl, hb⟩
    have HB := Lib.hid hb
    clear hb
    go_wp2
    go_ret
    exact ⟨rfl, HB.out⟩
  rw [decide_eq_false hbig] at hLg
  have HLg := Lib.hid hLg
  have hlb : l.length ≤ 300 := by omega
  clear hbig hLg
  by_cases hl0 : l.length = 0
  · have hd2 : ((l.length : Int) == 0) = true := by rw [hl0]; rfl
    clear hl0
    go_enter Tryd.func7, Tryd.ntmps7
    go_wp2_with fail
    refine HLg.out.mono ?_
    rintro e w1 ⟨rfl, rfl⟩
    go_wp2_with fail
    refine (HA.out _ (Below.refl _ _)).mono ?_
    rintro e w1 ⟨rfl, hb⟩
    have HB := Lib.hid hb
    clear hb
    go_wp2
    go_ret
    exact ⟨rfl, HB.out⟩
  have hd2 : ((l.length : Int) == 0) = false := beq_false_of_ne (by omega)
  obtain ⟨m, hlm⟩ : ∃ m, m = l.length * 2 := ⟨_, rfl⟩
  have HLay := Lib.hid (Lay_n (.slice Av l.length cv) l m hlm.symm w HR.out HO.out)
  by_cases hm : mayE l = 0
  case neg =>
    go_enter Tryd.func7, Tryd.ntmps7
    go_wp2_with fail
    refine HLg.out.mono ?_
    rintro e w1 ⟨rfl, rfl⟩
    go_wp2_with fail
    refine HLay.out.mono ?_
    rintro e w2 (⟨h0, _⟩ | ⟨_, rfl, hb2⟩)
    · exact absurd h0 hm
    · have HB2 := Lib.hid hb2
      generalize mayE l = q at *
      have hne : (q != 0) = true := by simpa using hm
      clear hb2 hm HLay
      go_wp2_with fail
      refine (HA.out _ HB2.out).mono ?_
      rintro e w3 ⟨rfl, hb⟩
      have HB := Lib.hid (below_then HB2.out hb)
      clear hb
      go_wp2
      go_ret
      exact ⟨rfl, HB.out⟩
  have Hm := Lib.hid hm
  obtain ⟨hml, hmay⟩ := mayE_ok.1 hm
  have HWb := Lib.hid (show Wd (rbody l) from rbody_lt (fun r h => ⟨hmay r h, (HO.out r h).2⟩))
  have HLb := Lib.hid ((rbody_length l).trans hlm.symm)
  have hm128 : m ≤ 128 := by omega
  have hm0 : 0 < m := by omega
  have hlm2 : ((m : Int) != 2 * (l.length : Int)) = false := by simp; omega
  have hd8 : decide ((128 : Int) < (m : Int)) = false := by simp; omega
  have hcl := rcommit_lt hml
  obtain ⟨c0, hc⟩ : ∃ c0, c0 = rcommit l := ⟨_, rfl⟩
  rw [← hc] at HLay hcl
  have Hc := Lib.hid hc
  obtain ⟨K, hKd⟩ : ∃ K, K = at_ % (64 * m) := ⟨_, rfl⟩
  have hK : ((at_ : Int) % (64 * (m : Int))) = (K : Int) := by
    rw [hKd, Int.natCast_emod]
    simp
  have hKlt : K < 64 * m := by rw [hKd]; exact Nat.mod_lt _ (by omega)
  obtain ⟨i0, hi, hz0, hz1, hz2⟩ := info_parts info64
  clear hm hmay hlm hc hKd hl0
  go_enter Tryd.func7, Tryd.ntmps7
  go_wp2_with fail
  refine HLg.out.mono ?_
  rintro e w1 ⟨rfl, rfl⟩
  go_wp2_with fail
  refine HLay.out.mono ?_
  rintro e w2 (⟨_, A2, c2, rfl, ho2, hb2⟩ | ⟨h0, _⟩)
  case inr => exact absurd Hm.out h0
  have HB2 := Lib.hid hb2
  have HRb := Lib.hid (Rd.of_own ho2)
  clear hb2 ho2
  go_wp2_with (at_make; refine wpList_make_full _ rfl (.const (.int .i64 136)) (.const (.int .i64 136)) 25 rfl w2.heap.size 26 i0 _ 1 Tryd.underlying25 hi hz0 hz1 .i64 .i64 136 136 136 rfl rfl rfl rfl (by rw [hz2]; omega) (by unfold maxLen; omega) (Nat.le_refl _) ?_; intro w3 hown3 hg3; rw [made64] at hown3; have hb3 : Below w2.heap.size w2 w3 := (Below.refl _ _).grown hg3 (Nat.le_refl _) (by intro k h; cases h); obtain ⟨z, hz'⟩ : ∃ z, (u64s (List.replicate 136 0))[0]? = some z := ⟨_, u64s_at (by simp)⟩; have hz := hown3.cellAt 0 (by omega); rw [hz'] at hz; have hf := hown3.frozenAt 0; have hlt3 := (hown3.lt _ rfl).2; have hs := (hown3.stored 0 (.int .u64 (c0 : Nat))).1; rw [u64s_setN] at hs; have Hs3 := Lib.hid hs; have HB3 := Lib.hid hb3; clear hown3 hg3 hb3 hz' hs)
  go_loopw [11] (fun i wr => ∃ j : Nat, j ≤ m ∧ i = .int .i64 j ∧ wr.ownsRow w2.heap.size 26 1 (.slice (some ⟨w2.heap.size, 0, none⟩) 136 136) 136 (u64s (putTo ((List.replicate 136 0).set 0 c0) 8 (rbody l) j)) ∧ Below w2.heap.size w2 wr) (fun i _ => m - (intOf i).toNat)
  case atStart => exact ⟨0, by omega, rfl, Hs3.out, HB3.out.setCell (p := ⟨w2.heap.size, 0, none⟩) (Nat.le_refl _) _⟩
  case round =>
    obtain ⟨j, hj, rfl, hown, hb⟩ := hrel
    have hlp : (putTo ((List.replicate 136 0).set 0 c0) 8 (rbody l) j).length = 136 := by rw [putTo_length, List.length_set, List.length_replicate]
    clear hf hz hlt3
    by_cases hlt : j < m
    · have hjl : j < (rbody l).length := by rw [HLb.out]; exact hlt
      obtain ⟨b, o, rfl, q1⟩ := (HRb.out.below hb).at_ (u64s_at (l := rbody l) (k := j) hjl)
      have hst : (putTo ((List.replicate 136 0).set 0 c0) 8 (rbody l) j).set (8 + j) (rbody l)[j] = putTo ((List.replicate 136 0).set 0 c0) 8 (rbody l) (j + 1) := by
        show _ = (putTo ((List.replicate 136 0).set 0 c0) 8 (rbody l) j).set (8 + j) ((rbody l).getD j 0)
        simp [List.getD, hjl]
      generalize (rbody l)[j] = y at *
      have hz := hown.cellAt (8 + j) (by omega)
      obtain ⟨z, hz'⟩ : ∃ z, (u64s (putTo ((List.replicate 136 0).set 0 c0) 8 (rbody l) j))[8 + j]? = some z := ⟨_, u64s_at (by rw [hlp]; omega)⟩
      rw [hz'] at hz
      have hf := hown.frozenAt (8 + j)
      have hs := (hown.stored (8 + j) (.int .u64 (y : Nat))).1
      rw [u64s_setN, hst] at hs
      have Hs := Lib.hid hs
      have Hb := Lib.hid hb
      have hlt' : (j : Int) < (m : Int) := by omega
      have h8 : (8 : Int) + (j : Int) < 136 := by omega
      have h8' : 8 + j < 136 := by omega
      clear hst hs hown hb hlp hz' hjl
      go_wp2
      go_roundw
      case rel => exact ⟨j + 1, by omega, by go_num, Hs.out, Hb.out.setCell (p := ⟨w2.heap.size, 8 + j, none⟩) (Nat.le_refl _) _⟩
      case measure => simp [intOf]; omega
    · obtain rfl : j = m := by omega
      obtain ⟨u, hu⟩ : ∃ u, u = inRow t K (64 * (rbody l).length) := ⟨_, rfl⟩
      have hx0 : putTo ((List.replicate 136 0).set 0 c0) 8 (rbody l) j = slotT l K u 0 := by
        unfold slotT
        rw [HLb.out, Hc.out]
        rfl
      rw [hx0] at hown
      have Hu := Lib.hid hu
      have Hown0 := Lib.hid hown
      have HBx := Lib.hid (below_then HB2.out hb)
      have HB2x := Lib.hid hb
      clear hown hb hlp hx0 hu
      go_wp2
      go_loopw [13, 14, 15] (fun f i _ wr => ∃ k : Nat, k ≤ 32 ∧ i = .int .i64 k ∧ f = .bool (decide (u % 2 ^ k ≠ 0)) ∧ wr.ownsRow w2.heap.size 26 1 (.slice (some ⟨w2.heap.size, 0, none⟩) 136 136) 136 (u64s (slotT l K u k)) ∧ Below w2.heap.size w2 wr) (fun _ i _ _ => 32 - (intOf i).toNat)
      case atStart => exact ⟨0, by omega, rfl, by simp [Nat.mod_one], Hown0.out, HB2x.out⟩
      case round =>
        obtain ⟨k, hk, rfl, rfl, hown, hb⟩ := hrel
        clear Hown0 HBx HB2x
        by_cases hlt2 : k < 32
        · have hlt2' : (k : Int) < 32 := by omega
          have hsb := some_bit u k
          have hib := inRow_bit t K (64 * (rbody l).length) k hlt2
          rw [← Hu.out, HLb.out] at hib
          have hand : bits BinOp.and IntKind.u32 ((t : Int) / 2 ^ k) 1 = ((t / 2 ^ k % 2 : Nat) : Int) := by
            have h := u32_and_nat (t / 2 ^ k) 1 (Nat.lt_of_le_of_lt (Nat.div_le_self _ _) ht) (by decide)
            rw [Nat.and_one_is_mod] at h
            rw [div_pow]
            exact h
          by_cases hbit : t / 2 ^ k % 2 = 1
          · have hbb : (bits BinOp.and IntKind.u32 ((t : Int) / 2 ^ k) 1 == 1) = true := by rw [hand, hbit]; rfl
            by_cases hin : K + k < 64 * j
            · have hin' : (K : Int) + (k : Int) < 64 * (j : Int) := by omega
              have hq : (K + k) / 64 < j := by omega
              have hub : u / 2 ^ k % 2 = 1 := hib.2 ⟨hbit, hin⟩
              have hst := slotT_turn l K u k hml (by rw [HLb.out]; exact hq) hub
              rw [decide_eq_true hub, Bool.or_true] at hsb
              have hlen := slotT_length l K u k
              have hwd := slotT_wd (by rw [← Hc.out]; exact hcl) HWb.out K u k
              have h8 : 8 + (K + k) / 64 < (slotT l K u k).length := by omega
              have hz := hown.cellAt (8 + (K + k) / 64) (by omega)
              rw [u64s_at h8] at hz
              have hyq : (slotT l K u k)[8 + (K + k) / 64] < 18446744073709551616 := hwd _ (List.getElem_mem h8)
              have hyd : (slotT l K u k).getD (8 + (K + k) / 64) 0 = (slotT l K u k)[8 + (K + k) / 64] := by simp [List.getD, h8]
              rw [hyd] at hst
              generalize (slotT l K u k)[8 + (K + k) / 64] = z at *
              have hf := hown.frozenAt (8 + (K + k) / 64)
              have hqi : 8 + ((K : Int) + (k : Int)) / 64 < 136 := by omega
              have hqn : 8 + (K + k) / 64 < 136 := by omega
              have hs := (hown.stored (8 + (K + k) / 64) (.int .u64 ((z ^^^ 2 ^ ((K + k) % 64) : Nat) : Int))).1
              rw [u64s_setN, hst] at hs
              rw [← xor_one z _ hyq (Nat.mod_lt _ (by decide))] at hs
              have Hs := Lib.hid hs
              have Hb := Lib.hid hb
              have Hsb := Lib.hid hsb
              clear hs hb hsb hown hst hyd hyq hlen hwd h8 hub hib hand hbit hin hq
              go_wp2
              go_roundw
              case rel => exact ⟨k + 1, by omega, by go_num, by rw [Hsb.out], Hs.out, Hb.out.setCell (p := ⟨w2.heap.size, 8 + (K + k) / 64, none⟩) (Nat.le_refl _) _⟩
              case measure => simp [intOf]; omega
            · have hin' : decide ((K : Int) + (k : Int) < 64 * (j : Int)) = false := by simp; omega
              have hub : ¬ u / 2 ^ k % 2 = 1 := fun h => hin (hib.1 h).2
              rw [decide_eq_false hub, Bool.or_false] at hsb
              rw [← slotT_stay l K u k hub] at hown
              have Hs := Lib.hid hown
              have Hb := Lib.hid hb
              have Hsb := Lib.hid hsb
              clear hb hsb hown hub hib hand hbit hin
              go_wp2
              go_roundw
              case rel => exact ⟨k + 1, by omega, by go_num, by rw [Hsb.out], Hs.out, Hb.out⟩
              case measure => simp [intOf]; omega
          · have hbb : (bits BinOp.and IntKind.u32 ((t : Int) / 2 ^ k) 1 == 1) = false := by rw [hand]; exact beq_false_of_ne (by omega)
            have hub : ¬ u / 2 ^ k % 2 = 1 := fun h => hbit (hib.1 h).1
            rw [decide_eq_false hub, Bool.or_false] at hsb
            rw [← slotT_stay l K u k hub] at hown
            have Hs := Lib.hid hown
            have Hb := Lib.hid hb
            have Hsb := Lib.hid hsb
            clear hb hsb hown hub hib hand hbit
            go_wp2
            go_roundw
            case rel => exact ⟨k + 1, by omega, by go_num, by rw [Hsb.out], Hs.out, Hb.out⟩
            case measure => simp [intOf]; omega
        · obtain rfl : k = 32 := by omega
          have hult : u < 2 ^ 32 := by rw [Hu.out]; exact inRow_lt _ _ _
          rw [Nat.mod_eq_of_lt hult]
          have hlen := slotT_length l K u 32
          have hwd := slotT_wd (by rw [← Hc.out]; exact hcl) HWb.out K u 32
          have hfirst := slotT_first l K u 32
          have hrd := Rd.of_own hown
          have HBz := Lib.hid (below_then HB2.out hb)
          by_cases hu0 : u = 0
          · have e0 : slotT l K u 32 = putTo ((List.replicate 136 0).set 0 (rcommit l)) 8 (rbody l) (rbody l).length := by
              rw [hu0]
              unfold slotT
              rw [turnsTo_zero]
            have hpl := put_laid (s := (List.replicate 136 0).set 0 (rcommit l)) (l := l) hml (by simp)
            rw [← e0] at hpl
            have HRead := Lib.hid (Read_laid _ _ l _ hlen hwd hrd hfirst hpl Hm.out)
            rw [show decide (u ≠ 0) = false by simp [hu0]]
            clear hu0 e0 hpl hlen hwd hfirst hrd hb hown hult Hu hK
            go_wp2_with fail
            refine HRead.out.mono ?_
            rintro e w5 ⟨A5, c5, rfl, ho5, hb5⟩
            have HB5 := Lib.hid (below_then HBz.out hb5)
            have HR5 := Lib.hid (Rd.of_own ho5)
            clear hb5 ho5 HRead
            go_wp2_with fail
            refine (refSame_yes _ (.slice Av l.length cv) l _ HR5.out (HR.out.below HB5.out)).mono ?_
            rintro e w6 ⟨rfl, hb6⟩
            have HB6 := Lib.hid (below_then HB5.out hb6)
            clear hb6
            go_wp2_with fail
            refine (HA.out _ HB6.out).mono ?_
            rintro e w7 ⟨rfl, hb7⟩
            have HB7 := Lib.hid (below_then HB6.out hb7)
            clear hb7
            go_wp2
            go_ret
            exact ⟨rfl, HB7.out⟩
          · have hbad : SlotBad (slotT l K u 32) := .inr ⟨hlen, by rw [hfirst]; exact rcommit_pos l, by
              rw [hfirst, Hu.out]
              unfold slotT
              exact turned_none (by simp) hml HWb.out (by rw [HLb.out]; omega) (by rw [← Hu.out]; exact hu0)⟩
            have HRead := Lib.hid (Read_three (.slice (some ⟨w2.heap.size, 0, none⟩) 136 136) _ _ hwd (by rw [hlen]; exact hrd))
            have Hbad := Lib.hid hbad
            rw [show decide (u ≠ 0) = true by simp [hu0]]
            clear hu0 hlen hwd hfirst hrd hb hown hult Hu hK hbad
            go_wp2_with fail
            refine HRead.out.mono ?_
            rintro e w5 (⟨_, rfl, hb5⟩ | ⟨hk2, _⟩ | ⟨hk2, _⟩)
            · have HB5 := Lib.hid (below_then HBz.out hb5)
              clear hb5
              go_wp2_with fail
              refine (told_form _ (HG.out.below HB5.out)).mono ?_
              rintro e w6 ⟨rfl, hb6⟩
              have HB6 := Lib.hid (below_then HB5.out hb6)
              clear hb6
              go_wp2_with fail
              refine (HA.out _ HB6.out).mono ?_
              rintro e w7 ⟨rfl, hb7⟩
              have HB7 := Lib.hid (below_then HB6.out hb7)
              clear hb7
              go_wp2
              go_ret
              exact ⟨rfl, HB7.out⟩
            · exact (not_bad_none Hbad.out hk2).elim
            · exact (not_bad_list Hbad.out hk2).elim
end Go.Proofs.YtlfnpjdnfkcigaaDoor
