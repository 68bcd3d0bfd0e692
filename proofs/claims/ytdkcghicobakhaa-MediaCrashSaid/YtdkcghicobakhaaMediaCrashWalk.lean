/- The walk of the law MediaCrash. -/
import Derived.Test.YtdkcghicobakhaaMediaTwo
namespace Go.Proofs.Ytdkcghicobakhaa
open Go.RowKit
set_option linter.unusedVariables false

theorem bools_at {l : List Bool} {k : Nat} (h : k < l.length) : (bools l)[k]? = some (.bool l[k]) := by simp [bools, h]
theorem bools_set (l : List Bool) (k : Nat) (x : Bool) : (bools l).set k (.bool x) = bools (l.set k x) := by simp [bools, List.map_set]
theorem madeB (n : Nat) : (madeCells (Value.bool false).cells (n * 1)).toList = bools (List.replicate n false) := by
  rw [Nat.mul_one]
  apply List.ext_getElem?
  intro i
  simp only [madeCells, Value.cells, bools]
  by_cases h : i < n
  · simp [h, Nat.mod_one]
  · simp [h]
/-- the first j of n are true -/
def allTo (n j : Nat) : List Bool := List.replicate j true ++ List.replicate (n - j) false
theorem allTo_length {n j : Nat} (h : j ≤ n) : (allTo n j).length = n := by unfold allTo; simp; omega
theorem allTo_set {n j : Nat} (h : j < n) : (allTo n j).set j true = allTo n (j + 1) := by
  unfold allTo
  rw [show n - j = (n - (j + 1)) + 1 by omega, List.replicate_succ, List.set_append_right _ _ (by simp), List.length_replicate, Nat.sub_self, List.set_cons_zero, List.replicate_succ', List.append_assoc]
  rfl
theorem allTo_all (n : Nat) : allTo n n = List.replicate n true := by unfold allTo; simp
theorem allTo_zero (n : Nat) : allTo n 0 = List.replicate n false := by unfold allTo; simp

set_option maxRecDepth 100000 in
set_option maxHeartbeats 16000000 in
theorem mediaCrash_walk (w : World) (n0 : Nat) (hn0 : n0 < 256) (v : Value) (l : List Stp) (hl : ∀ s ∈ l, OkS w s) (hr : Rd w v l.length (scells l)) (vk : Value) (keep : List Bool) (hk : Rd w vk keep.length (bools keep)) :
    Calls Try.prog 5 #[.int .u8 n0, v, vk] w fun e w' => e = .returned (.bool true) ∧ Below w.heap.size w w' := by
  have HH := Lib.hid (heavy_any v l w hr hl)
  have HL := Lib.hid hr
  have HO := Lib.hid hl
  have HKp := Lib.hid hk
  obtain ⟨A, c, rfl, h1, h2, _⟩ := hr
  obtain ⟨Ak, ck, rfl, k1, k2, _⟩ := hk
  unfold maxLen at h2 k2
  clear hl
  obtain ⟨m, hm⟩ : ∃ m, m = n0 % 30 + 1 := ⟨_, rfl⟩
  have hm1 : 1 ≤ m := by omega
  have hm2 : m ≤ 30 := by omega
  have hmi : (n0 : Int) % 30 + 1 = (m : Int) := by omega
  have HM := Lib.hid hmi
  clear hm hmi
  have HN := Lib.hid (fun W => New_at m W hm1 (by omega))
  obtain ⟨i0, hi0, hz0, hz1, hz2⟩ := info_parts infoB
  go_enter Try.func5, Try.ntmps5
  go_wp2_with fail
  refine HH.out.mono ?_
  rintro e w' ⟨b, hb, rfl, rfl⟩
  cases b with
  | true =>
    clear hb
    go_wp2_with fail
    refine (alive_any _).mono ?_
    rintro e w' ⟨rfl, hb⟩
    have Hb := Lib.hid hb
    clear hb
    go_wp2
    go_ret
    exact ⟨rfl, Hb.out⟩
  | false =>
    obtain ⟨hl1, hks⟩ := hb rfl
    have HKs := Lib.hid hks
    clear hb hks
    by_cases hbig : 400 < keep.length
    · have hd : decide ((400 : Int) < (keep.length : Int)) = true := by simp; omega
      go_wp2_with fail
      refine (alive_any _).mono ?_
      rintro e w' ⟨rfl, hb⟩
      have Hb := Lib.hid hb
      clear hb
      go_wp2
      go_ret
      exact ⟨rfl, Hb.out⟩
    have hd : decide ((400 : Int) < (keep.length : Int)) = false := by simp; omega
    have hkl : keep.length ≤ 400 := by omega
    go_wp2_with fail
    rw [HM.out]
    refine (HN.out _).mono ?_
    rintro e w1 ⟨gd, rfl, S1, h1', hb1, hs1⟩
    have H1 := Lib.hid h1'
    have B1 := Lib.hid hb1
    have G1 := Lib.hid hs1
    clear h1' hb1 hs1
    go_wp2_with fail
    refine (HN.out _).mono ?_
    rintro e w2 ⟨gf, rfl, T1, h2', hb2, hs2⟩
    have HT := Lib.hid (show Two w w2 gd gf m (List.replicate (8 * m) 0, []) (List.replicate (8 * m) 0, []) from
      ⟨S1, T1, H1.out.below hb2, h2', fun b hb ht => (by have := H1.out.lt b hb; have := hs2 b ht; omega), G1.out, fun b hb => Nat.le_trans B1.out.size (hs2 b hb), below_then B1.out hb2⟩)
    clear h2' hb2 hs2 H1 B1 G1
    go_wp2
    go_loopw [12] (fun i wr => ∃ j : Nat, j ≤ l.length ∧ i = .int .i64 j ∧ Two w wr gd gf m (runP m (l.take j) (List.replicate (8 * m) 0, [])) (runP m (l.take j) (List.replicate (8 * m) 0, []))) (fun i _ => l.length - (intOf i).toNat)
    case atStart => exact ⟨0, by omega, rfl, HT.out⟩
    case round =>
      obtain ⟨j, hj, rfl, htw⟩ := hrel
      clear HT
      have hlen := runP_len m l (List.replicate (8 * m) 0, []) j hj
      by_cases hlt : j < l.length
      · have hrt := runP_take m l (List.replicate (8 * m) 0, []) j hlt
        have hso := HO.out _ (List.getElem_mem hlt)
        have hsk := HKs.out _ (List.getElem_mem hlt)
        obtain ⟨b, o, rfl, hq⟩ := step_cells HL.out hlt
        generalize runP m (l.take j) (List.replicate (8 * m) 0, []) = x at *
        obtain ⟨K, L⟩ := x
        dsimp only [List.length_nil] at hlen hrt
        have Hrt := Lib.hid hrt
        clear hrt
        obtain ⟨S, T, t1, t2, t3, t4, t5, t6⟩ := htw
        generalize l[j] = s at *
        obtain ⟨d, a, x, kv, kp⟩ := s
        dsimp only at hq hsk
        have hlt' : (j : Int) < (l.length : Int) := by omega
        have HSo := Lib.hid (fun (W : World) (hb : Below w.heap.size w W) => (show OkS W ⟨d, a, x, kv, kp⟩ from ⟨hso.1, hso.2.1, hso.2.2.1, hso.2.2.2.below hb⟩))
        obtain ⟨Akv, ckv, hkv, _, _, _⟩ := hso.2.2.2
        dsimp only at hkv
        subst hkv
        have HDo := Lib.hid (fun (W : World) g S (h : At W g S m K L) (hb : Below w.heap.size w W) => does_any W g S m K L h hm1 (by omega) (by omega) ⟨d, a, x, .slice Akv kp.length ckv, kp⟩ (HSo.out W hb) (by show kp.length ≤ 65536; omega))
        have HQ := Lib.hid hq
        have H1 := Lib.hid t1
        have H2 := Lib.hid t2
        have H3 := Lib.hid t3
        have H4 := Lib.hid t4
        have H5 := Lib.hid t5
        have H6 := Lib.hid t6
        obtain ⟨q0, q1, q2, q3⟩ := HQ.out wr t6
        clear hso hq t1 t2 t3 t4 t5 t6
        go_wp2_with fail
        refine (HDo.out _ _ _ H1.out H6.out).mono ?_
        rintro e w3 ⟨rfl, hg3⟩
        have htw3 := two_left (x := (K, L)) (y := (K, L)) H1.out H2.out H3.out H4.out H5.out H6.out hg3
        obtain ⟨S3, T3, t1, t2, t3, t4, t5, t6⟩ := htw3
        have K1 := Lib.hid t1
        have K2 := Lib.hid t2
        have K3 := Lib.hid t3
        have K4 := Lib.hid t4
        have K5 := Lib.hid t5
        have K6 := Lib.hid t6
        obtain ⟨r0, r1, r2, r3⟩ := HQ.out w3 t6
        clear t1 t2 t3 t4 t5 t6 hg3 q0 q1 q2 q3
        go_wp2_with fail
        refine (HDo.out _ _ _ K2.out K6.out).mono ?_
        rintro e w4 ⟨rfl, hg4⟩
        have Htw4 := Lib.hid (two_right (x := ((stepP m ⟨d, a, x, .slice Akv kp.length ckv, kp⟩ K L).1, (stepP m ⟨d, a, x, .slice Akv kp.length ckv, kp⟩ K L).2)) (y := (K, L)) K1.out K2.out K3.out K4.out K5.out K6.out hg4)
        clear hg4 r0 r1 r2 r3
        go_wp2
        go_roundw
        case rel => exact ⟨j + 1, by omega, by go_num, by rw [Hrt.out]; exact Htw4.out⟩
        case measure => simp [intOf]; omega
      · obtain rfl : j = l.length := by omega
        rw [List.take_length] at htw hlen
        generalize runP m l (List.replicate (8 * m) 0, []) = x at *
        obtain ⟨K, L⟩ := x
        dsimp only [List.length_nil] at hlen
        have hL : L.length ≤ 150 := by omega
        obtain ⟨S, T, t1, t2, t3, t4, t5, t6⟩ := htw
        have H1 := Lib.hid t1
        have H2 := Lib.hid t2
        have H3 := Lib.hid t3
        have H4 := Lib.hid t4
        have H5 := Lib.hid t5
        have H6 := Lib.hid t6
        clear t1 t2 t3 t4 t5 t6 hlen hj
        go_wp2_with fail
        refine (Kept_at H1.out (by omega)).mono ?_
        rintro e w3 ⟨A3, c3, rfl, ho3, hb3⟩
        have HO3 := Lib.hid ho3
        have C3 := Lib.hid hb3
        have HD3 := Lib.hid (H1.out.below hb3)
        have HF3 := Lib.hid (H2.out.below hb3)
        have B3 := Lib.hid (below_then H6.out hb3)
        clear ho3 hb3
        go_wp2_with fail
        refine (Words_at HD3.out (by omega)).mono ?_
        rintro e w4 ⟨A4, c4, rfl, ho4, hb4⟩
        have HO4 := Lib.hid ho4
        have HO3b := Lib.hid (own_below HO3.out hb4)
        have HD4 := Lib.hid (HD3.out.below hb4)
        have HF4 := Lib.hid (HF3.out.below hb4)
        have B4 := Lib.hid (below_then B3.out hb4)
        have Z3 := Lib.hid C3.out.size
        have Z4 := Lib.hid hb4.size
        clear ho4 hb4
        go_wp2_with fail
        refine (Pending_at HD4.out (by omega)).mono ?_
        rintro e w5 ⟨A5, c5, rfl, ho5, hb5⟩
        have HO5 := Lib.hid ho5
        have HO3c := Lib.hid (own_below HO3b.out hb5)
        have HO4c := Lib.hid (own_below HO4.out hb5)
        have HD5 := Lib.hid (HD4.out.below hb5)
        have HF5 := Lib.hid (HF4.out.below hb5)
        have B5 := Lib.hid (below_then B4.out hb5)
        have Z5 := Lib.hid hb5.size
        clear ho5 hb5
        go_wp2_with (at_builtin; refine wpList_copy_rd rfl (.const (.slice none 0 0)) (.tmp 83) _ rfl 4 i0 _ 1 1 Try.underlying33 hi0 hz0 hz1 hz2 rfl (by decide) rfl (.slice Ak keep.length ck) keep.length (bools keep) rfl (HKp.out.below B5.out) (by rw [bools_length, Nat.mul_one]) (bools_one keep) (by unfold maxLen; omega) (by omega) ?_; intro A6 c6 w6 hown6 hb6; have Hown6 := Lib.hid hown6; have Hb6 := Lib.hid hb6; clear hown6 hb6)
        have HD6 := Lib.hid (HD5.out.below Hb6.out)
        refine (Crash_at HD6.out hm1 (by omega) (by omega) _ keep (Rd.of_own Hown6.out) ?_ (by omega)).mono ?_
        · intro b o cc hv hS
          injection hv with hv _ _
          have h3 := HD5.out.lt b hS
          have h4 := (Hown6.out.lt b (by rw [hv]; rfl)).1
          omega
        rintro e w7 ⟨rfl, hg7⟩
        obtain ⟨S7, hat7, ht7, hs7⟩ := hg7
        have R3 := Lib.hid (own_touch (own_below HO3c.out Hb6.out) ht7 (fun b hb => H1.out.lt b hb))
        have R4 := Lib.hid (own_touch (own_below HO4c.out Hb6.out) ht7 (fun b hb => HD3.out.lt b hb))
        have R5 := Lib.hid (own_touch (own_below HO5.out Hb6.out) ht7 (fun b hb => HD4.out.lt b hb))
        have B7 := Lib.hid ((below_then B5.out Hb6.out).trans (ht7.below (Nat.le_trans B5.out.size Hb6.out.size) H4.out))
        have HF7 := Lib.hid ((HF5.out.below Hb6.out).touch ht7 H3.out)
        have HD7 := Lib.hid hat7
        have X7 := Lib.hid (show ∀ b, S7 b → ¬ T b from fun b hb hT => (hs7 b hb).elim (fun h => H3.out b h hT) (fun h => by have := (HF5.out.below Hb6.out).lt b hT; omega))
        have G7 := Lib.hid (show ∀ b, S7 b → w.heap.size ≤ b from fun b hb => (hs7 b hb).elim (H4.out b) (fun h => Nat.le_trans (Nat.le_trans B5.out.size Hb6.out.size) h))
        clear hat7 ht7 hs7
        obtain ⟨K', hK'⟩ : ∃ K', K' = apP K (takes (isK keep) 0 L) := ⟨_, rfl⟩
        rw [← hK'] at HD7
        have hKl : K.length = 8 * m := H1.out.2.len
        have hcw : ∀ a, wd K' a = wd K a ∨ ∃ x ∈ L, x.p = a ∧ x.w = wd K' a := fun a => by
          rw [hK']
          rcases crash_word a (takes (isK keep) 0 L) K (fun x hx => by rw [hKl]; exact (H1.out.2.ok x (takes_mem _ _ _ _ hx)).1) with h | ⟨x, hx, h⟩
          · exact .inl h
          · exact .inr ⟨x, takes_mem _ _ _ _ hx, h⟩
        have HCW := Lib.hid hcw
        have HKl := Lib.hid hKl
        have HK'l := Lib.hid (show K'.length = 8 * m by rw [hK', apP_length, hKl])
        clear hcw hK' hKl
        go_wp2_with (first
          | (at_make; refine wpList_make_full _ rfl (.tmp 87) (.tmp 87) 33 rfl w7.heap.size 4 i0 _ 1 Try.underlying33 hi0 hz0 hz1 .i64 .i64 _ _ L.length rfl rfl rfl rfl (by rw [hz2]; omega) (by unfold maxLen; omega) (Nat.le_refl _) ?_; intro w8 hown8 hg8; have hb8 : Below w7.heap.size w7 w8 := (Below.refl _ _).grown hg8 (Nat.le_refl _) (by intro k h; cases h)))
        rw [madeB, ← allTo_zero] at hown8
        have Hown8 := Lib.hid hown8
        have Hb8 := Lib.hid hb8
        clear hown8 hb8 hg8
        go_loopw [17] (fun i wr => ∃ j : Nat, j ≤ L.length ∧ i = .int .i64 j ∧ wr.ownsRow w7.heap.size 4 1 (.slice (some ⟨w7.heap.size, 0, none⟩) L.length L.length) L.length (bools (allTo L.length j)) ∧ Below w7.heap.size w7 wr) (fun i _ => L.length - (intOf i).toNat)
        case atStart => exact ⟨0, by omega, rfl, Hown8.out, Hb8.out⟩
        case round =>
          obtain ⟨j, hj, rfl, hown, hb⟩ := hrel
          by_cases hlt : j < L.length
          · have hc := (hown.cellAt j (by omega)).trans (bools_at (l := allTo L.length j) (k := j) (by rw [allTo_length hj]; exact hlt))
            have hf := hown.frozenAt j
            have hs := (hown.stored j (.bool true)).1
            rw [bools_set, allTo_set hlt] at hs
            have Hs := Lib.hid hs
            have Hb := Lib.hid hb
            generalize (allTo L.length j)[j]'(by rw [allTo_length hj]; exact hlt) = z at *
            have hlt' : (j : Int) < (L.length : Int) := by omega
            clear hs hb hown
            go_wp2
            go_roundw
            case rel => exact ⟨j + 1, by omega, by go_num, Hs.out, Hb.out.setCell (Nat.le_refl _) _⟩
            case measure => simp [intOf]; omega
          · obtain rfl : j = L.length := by omega
            rw [allTo_all] at hown
            have Hown9 := Lib.hid hown
            have Hb9 := Lib.hid hb
            clear hown hb
            go_wp2_with fail
            refine (Crash_at (HF7.out.below Hb9.out) hm1 (by omega) (by omega) _ (List.replicate L.length true) (by rw [List.length_replicate]; exact Rd.of_own Hown9.out) ?_ (by rw [List.length_replicate]; omega)).mono ?_
            · intro b o cc hv hS
              injection hv with hv _ _
              have h3 := HF7.out.lt b hS
              have h4 := (Hown9.out.lt b (by rw [hv]; rfl)).1
              omega
            rintro e w10 ⟨rfl, T10, hat10, ht10, hs10⟩
            rw [takes_all L.length L 0 (by omega)] at hat10
            have HF10 := Lib.hid hat10
            have HD10 := Lib.hid ((HD7.out.below Hb9.out).touch ht10 (fun b hT hS => X7.out b hS hT))
            have R3' := Lib.hid (own_touch (own_below R3.out Hb9.out) ht10 (fun b hb => H2.out.lt b hb))
            have R4' := Lib.hid (own_touch (own_below R4.out Hb9.out) ht10 (fun b hb => by have := H2.out.lt b hb; have := Z3.out; omega))
            have R5' := Lib.hid (own_touch (own_below R5.out Hb9.out) ht10 (fun b hb => by have := H2.out.lt b hb; have := Z3.out; have := Z4.out; omega))
            have B10 := Lib.hid ((below_then B7.out Hb9.out).trans (ht10.below (Nat.le_trans B7.out.size Hb9.out.size) H5.out))
            clear hat10 ht10 hs10
            go_wp2_with fail
            refine (Words_at HD10.out (by omega)).mono ?_
            rintro e w11 ⟨A11, c11, rfl, ho11, hb11⟩
            rw [apP_nil] at ho11
            have RA := Lib.hid (Rd.of_own ho11)
            have RK := Lib.hid ((Rd.of_own R3'.out).below hb11)
            have RW := Lib.hid ((Rd.of_own R4'.out).below hb11)
            have RP := Lib.hid ((Rd.of_own R5'.out).below hb11)
            have HF11 := Lib.hid (HF10.out.below hb11)
            have HD11 := Lib.hid (HD10.out.below hb11)
            have B11 := Lib.hid (below_then B10.out hb11)
            clear ho11 hb11
            go_wp2_with fail
            refine (Words_at HF11.out (by omega)).mono ?_
            rintro e w12 ⟨A12, c12, rfl, ho12, hb12⟩
            rw [apP_nil] at ho12
            have RF := Lib.hid (Rd.of_own ho12)
            have RA2 := Lib.hid (RA.out.below hb12)
            have RK2 := Lib.hid (RK.out.below hb12)
            have RW2 := Lib.hid (RW.out.below hb12)
            have RP2 := Lib.hid (RP.out.below hb12)
            have HF12 := Lib.hid (HF11.out.below hb12)
            have HD12 := Lib.hid (HD11.out.below hb12)
            have B12 := Lib.hid (below_then B11.out hb12)
            clear ho12 hb12
            go_wp2_with fail
            refine (sameW_yes _ _ (apP K L) _ (by rw [apP_length, HKl.out]) _ RF.out RW2.out).mono ?_
            rintro e w13 ⟨rfl, hb13⟩
            have RA3 := Lib.hid (RA2.out.below hb13)
            have RK3 := Lib.hid (RK2.out.below hb13)
            have RW3 := Lib.hid (RW2.out.below hb13)
            have RP3 := Lib.hid (RP2.out.below hb13)
            have HF13 := Lib.hid (HF12.out.below hb13)
            have HD13 := Lib.hid (HD12.out.below hb13)
            have B13 := Lib.hid (below_then B12.out hb13)
            clear hb13
            go_wp2_with fail
            refine (Kept_at HF13.out (by omega)).mono ?_
            rintro e w14 ⟨A14, c14, rfl, ho14, hb14⟩
            have RF4 := Lib.hid (Rd.of_own ho14)
            have RA4 := Lib.hid (RA3.out.below hb14)
            have RK4 := Lib.hid (RK3.out.below hb14)
            have RW4 := Lib.hid (RW3.out.below hb14)
            have RP4 := Lib.hid (RP3.out.below hb14)
            have HD14 := Lib.hid (HD13.out.below hb14)
            have B14 := Lib.hid (below_then B13.out hb14)
            clear ho14 hb14
            go_wp2_with fail
            refine (sameW_yes _ _ (apP K L) _ (by rw [apP_length, HKl.out]) _ RF4.out RW4.out).mono ?_
            rintro e w15 ⟨rfl, hb15⟩
            have RA5 := Lib.hid (RA4.out.below hb15)
            have RK5 := Lib.hid (RK4.out.below hb15)
            have RP5 := Lib.hid (RP4.out.below hb15)
            have HD15 := Lib.hid (HD14.out.below hb15)
            have B15 := Lib.hid (below_then B14.out hb15)
            clear hb15
            go_wp2_with fail
            refine (Pending_at HD15.out (by simp)).mono ?_
            rintro e w16 ⟨A16, c16, rfl, ho16, hb16⟩
            have RA6 := Lib.hid (RA5.out.below hb16)
            have RK6 := Lib.hid (RK5.out.below hb16)
            have RP6 := Lib.hid (RP5.out.below hb16)
            have B16 := Lib.hid (below_then B15.out hb16)
            clear ho16 hb16 RA RK RW RP HF11 HD11 B11 RF RA2 RK2 RW2 RP2 HF12 HD12 B12 RA3 RK3 RW3 RP3 HF13 HD13 B13 RF4 RA4 RK4 RW4 RP4 HD14 B14 RA5 RK5 RP5 HD15 B15 R3 R4 R5 R3' R4' R5' B10 HF10 HD10 Hb9 Hown9
            go_wp2
            go_loopw [19, 20, 21] (fun i _ _ wr => ∃ a : Nat, a ≤ 8 * m ∧ i = .int .i64 a ∧ Below w16.heap.size w16 wr) (fun i _ _ _ => 8 * m - (intOf i).toNat)
            case atStart => exact ⟨0, by omega, rfl, Below.refl _ _⟩
            case round =>
              obtain ⟨a, ha, rfl, hb⟩ := hrel
              have RA7 := Lib.hid (RA6.out.below hb)
              have RK7 := Lib.hid (RK6.out.below hb)
              have Hb17 := Lib.hid hb
              by_cases hlta : a < 8 * m
              · obtain ⟨ba, oa, rfl, qa⟩ := RA7.out.at_ (at_word (l := K') (k := a) (by rw [HK'l.out]; exact hlta))
                obtain ⟨bk, ok, rfl, qk⟩ := RK7.out.at_ (at_word (l := K) (k := a) (by rw [HKl.out]; exact hlta))
                have hfz := fineTo_zero (wd K a) (wd K' a) a L
                have HFA := Lib.hid (fineTo_all (k := wd K a) (c := wd K' a) (a := a) (L := L) (HCW.out a))
                have hla : (a : Int) < ((8 * m : Nat) : Int) := by omega
                have hla2 : (a : Int) < 8 * (m : Int) := by omega
                have HFS := Lib.hid (fun j h => fineTo_succ (wd K a) (wd K' a) a L j h)
                have hfi : (((wd K' a : Nat) : Int) == ((wd K a : Nat) : Int)) = fineTo (wd K a) (wd K' a) a L 0 := by
                  rw [hfz, Bool.eq_iff_iff]
                  simp only [beq_iff_eq]
                  omega
                have Hfi := Lib.hid hfi
                generalize wd K a = ka at *
                generalize hca : wd K' a = ca at *
                have Hca := Lib.hid hca
                clear hca
                clear hfz hfi hb
                go_wp2
                go_quiet (fail)
                go_wp2
                go_loopw [20, 21] (fun f i wr => ∃ j : Nat, j ≤ L.length ∧ i = .int .i64 j ∧ f = .bool (fineTo ka ca a L j) ∧ Below w16.heap.size w16 wr) (fun _ i _ => L.length - (intOf i).toNat)
                case atStart => exact ⟨0, by omega, rfl, by rw [Hfi.out], below_drewN Hb17.out _⟩
                case round =>
                  obtain ⟨j, hj, rfl, rfl, hb⟩ := hrel
                  clear qa qk
                  by_cases hltj : j < L.length
                  · have hfs := HFS.out j hltj
                    obtain ⟨p0, p1, p2⟩ := pends_at L j hltj
                    have RA8 := RA6.out.below hb
                    obtain ⟨ba2, oa2, hAA, qa⟩ := RA8.at_ (at_word (l := K') (k := a) (by rw [HK'l.out]; exact hlta))
                    injection hAA with hAA
                    injection hAA with e1 e2
                    subst e1; subst e2
                    have RP7 := RP6.out.below hb
                    obtain ⟨bp, op, hPP, qp⟩ := RP7.at_ p0
                    subst hPP
                    obtain ⟨bp2, op2, hPP, qw⟩ := RP7.at_ p1
                    injection hPP with hPP
                    injection hPP with e1 e2
                    subst e1; subst e2
                    rw [← Nat.add_assoc] at qw
                    have hltj' : (j : Int) < (L.length : Int) := by omega
                    have Hb18 := Lib.hid hb
                    rw [Hca.out] at qa
                    generalize L[j] = x at *
                    obtain ⟨xp, xw, xf⟩ := x
                    dsimp only at qp qw hfs
                    clear hb p0 p1 p2 RA8 RP7
                    cases hfj : fineTo ka ca a L j with
                    | true =>
                      have Hn := Lib.hid (show fineTo ka ca a L (j + 1) = true by rw [hfs, hfj]; rfl)
                      clear hfs hfj
                      go_wp2
                      go_quiet (fail)
                      go_wp2
                      go_roundw
                      case rel => exact ⟨j + 1, by omega, by go_num, by rw [Hn.out], below_drewN Hb18.out _⟩
                      case measure => simp [intOf]; omega
                    | false =>
                      rw [hfj, Bool.false_or] at hfs
                      by_cases hp : xp = a
                      · have hp1 : ((xp : Int) == (a : Int)) = true := by simp; omega
                        by_cases hw : xw = ca
                        · have hw1 : ((xw : Int) == (ca : Int)) = true := by simp; omega
                          have Hn := Lib.hid (show fineTo ka ca a L (j + 1) = true by rw [hfs]; simp [hp, hw])
                          clear hfs hfj hp hw
                          go_wp2
                          go_quiet (fail)
                          go_wp2
                          go_roundw
                          case rel => exact ⟨j + 1, by omega, by go_num, by rw [Hn.out], below_drewN Hb18.out _⟩
                          case measure => simp [intOf]; omega
                        · have hw1 : ((xw : Int) == (ca : Int)) = false := by simp; omega
                          have Hn := Lib.hid (show fineTo ka ca a L (j + 1) = false by rw [hfs]; simp [hw])
                          clear hfs hfj hp hw
                          go_wp2
                          go_quiet (fail)
                          go_wp2
                          go_roundw
                          case rel => exact ⟨j + 1, by omega, by go_num, by rw [Hn.out], below_drewN Hb18.out _⟩
                          case measure => simp [intOf]; omega
                      · have hp1 : ((xp : Int) == (a : Int)) = false := by simp; omega
                        have Hn := Lib.hid (show fineTo ka ca a L (j + 1) = false by rw [hfs]; simp [hp])
                        clear hfs hfj hp
                        go_wp2
                        go_quiet (fail)
                        go_wp2
                        go_roundw
                        case rel => exact ⟨j + 1, by omega, by go_num, by rw [Hn.out], below_drewN Hb18.out _⟩
                        case measure => simp [intOf]; omega
                  · obtain rfl : j = L.length := by omega
                    rw [HFA.out]
                    have Hb18 := Lib.hid hb
                    clear hb
                    go_wp2
                    go_roundw
                    case rel => exact ⟨a + 1, by omega, by go_num, Hb18.out⟩
                    case measure => simp [intOf]; omega
              · obtain rfl : a = 8 * m := by omega
                clear hb
                go_wp2_with fail
                refine (alive_any _).mono ?_
                rintro e w18 ⟨rfl, hb18⟩
                have B18 := Lib.hid (below_then (below_then B16.out Hb17.out) hb18)
                clear hb18
                go_wp2
                go_ret
                exact ⟨rfl, B18.out⟩
end Go.Proofs.Ytdkcghicobakhaa
