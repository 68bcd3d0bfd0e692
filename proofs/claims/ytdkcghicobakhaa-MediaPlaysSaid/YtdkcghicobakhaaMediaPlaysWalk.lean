/- The walk of the law MediaPlays. -/
import Derived.Test.YtdkcghicobakhaaMediaPair
import Derived.Deep.RegionHeld3
import Derived.Deep.CutRange
import Derived.Deep.CutBlock
import Derived.Deep.LoopGhost
namespace Go.Proofs.Ytdkcghicobakhaa
open Go.RowKit
set_option linter.unusedVariables false

set_option maxRecDepth 100000 in
set_option maxHeartbeats 16000000 in
theorem mediaPlays_walk (w : World) (n0 : Int) (hl0 : -9223372036854775808 ≤ n0) (hu0 : n0 ≤ 9223372036854775807) (v : Value) (l : List Stp) (hl : ∀ s ∈ l, OkS w s) (hr : Rd w v l.length (scells l)) :
    Calls Try.prog 3 #[.int .i64 n0, v] w fun e w' => e = .returned (.bool true) ∧ Below w.heap.size w w' := by
  have HH := Lib.hid (heavy_any v l w hr hl)
  have HL := Lib.hid hr
  have HO := Lib.hid hl
  obtain ⟨A, c, rfl, h1, h2, _⟩ := hr
  unfold maxLen at h2
  clear hl
  obtain ⟨i0, hi0, hz0, hz1, hz2⟩ := info_parts infoB
  go_enter Try.func3, Try.ntmps3
  go_wp2_with fail
  refine HH.out.mono ?_
  rintro e w' ⟨b, hb, rfl, rfl⟩
  cases b with
  | true =>
    clear hb
    go_wp2_with fail
    refine (alive_any _).mono ?_
    rintro e w' ⟨rfl, hb⟩
    have Hb := Lib.hid hb
    clear hb
    go_wp2
    go_ret
    exact ⟨rfl, Hb.out⟩
  | false =>
  obtain ⟨hl1, hks⟩ := hb rfl
  have HKs := Lib.hid hks
  clear hb hks
  by_cases hbig : 60 < n0 ∧ n0 ≤ 4096
  · obtain ⟨hb1, hb2⟩ := hbig
    have hd1 : decide (60 < n0) = true := by simp; omega
    have hd2 : decide (n0 ≤ 4096) = true := by simp; omega
    go_wp2_with fail
    refine (alive_any _).mono ?_
    rintro e w' ⟨rfl, hb⟩
    have Hb := Lib.hid hb
    clear hb
    go_wp2
    go_ret
    exact ⟨rfl, Hb.out⟩
  have hcase : (60 < n0 ∧ ¬ n0 ≤ 4096) ∨ ¬ 60 < n0 := by omega
  clear hbig
  by_cases hno : 1 ≤ n0 ∧ n0 ≤ 4096
  · obtain ⟨m, rfl⟩ : ∃ m : Nat, n0 = (m : Int) := ⟨n0.toNat, by omega⟩
    have hm1 : 1 ≤ m := by omega
    have hm2 : m ≤ 60 := by omega
    have hd1 : decide ((60 : Int) < (m : Int)) = false := by simp; omega
    clear hcase hno
    go_wp2_with fail
    refine (New_at m _ hm1 (by omega)).mono ?_
    rintro e w1 ⟨gd, rfl, S1, h1', hb1, hs1⟩
    have H1 := Lib.hid h1'
    have B1 := Lib.hid hb1
    have G1 := Lib.hid hs1
    clear h1' hb1 hs1
    go_wp2_with fail
    refine (refNew_yes m _ hm1 (by omega)).mono ?_
    rintro e w2 ⟨gr, rfl, T1, h2', hb2, hs2⟩
    have H2 := Lib.hid (H1.out.below hb2)
    have HT := Lib.hid (show Pair w w2 gd gr m (List.replicate (8 * m) 0, []) (List.replicate (8 * m) 0, []) from
      ⟨S1, T1, H1.out.below hb2, h2', fun b hb ht => (by have := H1.out.lt b hb; have := hs2 b ht; omega), G1.out, fun b hb => Nat.le_trans B1.out.size (hs2 b hb), below_then B1.out hb2⟩)
    clear h2' hb2 hs2
    go_wp2_with fail
    refine (Lines_at H2.out (by omega)).mono ?_
    rintro e w' ⟨rfl, rfl⟩
    clear H1 H2 B1 G1
    go_wp2
    go_loopw [8, 9, 10, 11, 12, 13] (fun i _ _ _ _ _ wr => ∃ (j : Nat) (K : List Nat) (L : List Pd), j ≤ l.length ∧ i = .int .i64 j ∧ L.length ≤ j ∧ Pair w wr gd gr m (K, L) (K, L)) (fun i _ _ _ _ _ _ => l.length - (intOf i).toNat)
    case atStart => exact ⟨0, _, _, by omega, rfl, by simp, HT.out⟩
    case round =>
      obtain ⟨j, K, L, hj, rfl, hLl, htw⟩ := hrel
      clear HT
      by_cases hlt : j < l.length
      · have hso := HO.out _ (List.getElem_mem hlt)
        have hsk := HKs.out _ (List.getElem_mem hlt)
        obtain ⟨b, o, rfl, hq⟩ := step_cells HL.out hlt
        generalize l[j] = s at *
        obtain ⟨d, a, x, kv, kp⟩ := s
        dsimp only at hq hsk
        have hlt' : (j : Int) < (l.length : Int) := by omega
        obtain ⟨Akv, ckv, hkv, _, _, _⟩ := hso.2.2.2
        dsimp only at hkv
        subst hkv
        obtain ⟨S, T, t1, t2, t3, t4, t5, t6⟩ := htw
        obtain ⟨q0, q1, q2, q3⟩ := hq wr t6
        have H3 := Lib.hid (trio_alloc (x := (K, L)) (y := (K, L)) (cs := #[.int .i64 d, .int .i64 a, .int .u64 x, .slice Akv kp.length ckv]) t1 t2 t3 t4 t5 t6)
        have HSo := Lib.hid hso
        clear t1 t2 t3 t4 t5 t6 hq hso
        go_upto_block 2 with fail
        generalize wr.heap.size = gx at *
        generalize wr.alloc (.cells #[.int .i64 d, .int .i64 a, .int .u64 x, .slice Akv kp.length ckv] SpT) = W2 at *
        clear q0 q1 q2 q3
        go_cut [10, 11, 12, 13] from 55 to 170 (fun s10 s11 s12 s13 wx => ∃ (z : Int) (K' : List Nat) (L' : List Pd), s10 = .int .i64 z ∧ s11 = .int .i64 z ∧ L'.length ≤ j + 1 ∧ Pair w wx gd gr m (K', L') (K', L'))
        case first =>
          obtain ⟨S, T, t1, t2, t3, t4, t5, t6, t7, t8, t9⟩ := H3.out
          obtain ⟨c0, c1, c2, c3⟩ := box_cells t9
          dsimp only at t1 t2
          have A1 := Lib.hid t1
          have A2 := Lib.hid t2
          have A3 := Lib.hid t3
          have A4 := Lib.hid t4
          have A5 := Lib.hid t5
          have A6 := Lib.hid t6
          have A7 := Lib.hid t7
          have A8 := Lib.hid t8
          have A9 := Lib.hid t9
          have HLn := Lib.hid t1.2.len
          have HOk := Lib.hid t1.2.ok
          have HKr := Lib.hid HSo.out.2.2.2
          have hx := HSo.out.2.2.1
          dsimp only at hx
          have Hx := Lib.hid hx
          clear t1 t2 t3 t4 t5 t6 t7 t8 t9 hx H3
          by_cases e0 : d = 0
          · subst e0
            by_cases hv : valid m a
            · obtain ⟨k, rfl⟩ := Int.eq_ofNat_of_zero_le hv.1
              have hk8 : k < 8 * m := by have := hv.2; omega
              have HC := Lib.hid (Store_at A1.out (by omega) (by omega) k x hk8 Hx.out)
              clear hv
              go_wp2_with fail
              refine HC.out.mono ?_
              rintro e w3 ⟨rfl, hg⟩
              obtain ⟨S', T', t1, t2, t3, t4, t5, t6, t7, t8, t9⟩ := trio_left (x := (K, L)) (y := (K, L)) A1.out A2.out A3.out A4.out A5.out A6.out A7.out A8.out A9.out hg
              clear c0 c1 c2 c3
              obtain ⟨c0, c1, c2, c3⟩ := box_cells t9
              have HI := Lib.hid (Is_yes _ _ _ _ _ t2 m HLn.out (by omega) (k : Int) ⟨by omega, by omega⟩)
              have HR := Lib.hid (refStore_any _ _ _ _ _ t2 (by show L.length ≤ 65536; omega) k x)
              have HP := Lib.hid (fun w' hg => pair_right t1 t2 t3 t4 t5 t6 (w' := w') (K := K) (L := L ++ [⟨k, x, false⟩]) hg)
              clear t1 t2 t3 t4 t5 t6 t7 t8 t9 hg
              go_wp2_with fail
              refine HI.out.mono ?_
              rintro e w4 ⟨rfl, rfl⟩
              go_wp2_with fail
              refine HR.out.mono ?_
              rintro e w4 ⟨rfl, hg⟩
              have HPw := Lib.hid (HP.out _ hg)
              clear hg
              go_wp2
              go_meet
              exact ⟨0, K, L ++ [⟨k, x, false⟩], rfl, rfl, by rw [List.length_append, List.length_singleton]; omega, HPw.out⟩
            · have HC := Lib.hid (Store_out A1.out (by omega) a x hv)
              have HI := Lib.hid (Is_no _ _ _ _ _ A2.out m HLn.out (by omega) a hv)
              clear hv
              go_wp2_with fail
              refine HC.out.mono ?_
              rintro e w3 ⟨rfl, rfl⟩
              go_wp2_with fail
              refine HI.out.mono ?_
              rintro e w4 ⟨rfl, rfl⟩
              go_wp2
              go_meet
              exact ⟨2, K, L, rfl, rfl, by omega, ⟨S, T, A1.out, A2.out, A3.out, A4.out, A5.out, A6.out⟩⟩
          have n0 : (d == 0) = false := by simp; omega
          by_cases e1 : d = 1
          · subst e1
            by_cases hv : lined m a
            · have HC := Lib.hid (Flush_at A1.out (by omega) (by omega) a hv)
              have hd1 : decide (a ≥ 0) = true := by have := hv.1; simp; omega
              have hd2 : decide (a < (m : Int)) = true := by have := hv.2; simp; omega
              have hd3 : decide (0 ≤ a) = true := by have := hv.1; simp; omega
              have hv1 : 0 ≤ a := hv.1
              have hv2 : a < (m : Int) := hv.2
              clear hv e0 n0
              go_wp2_with fail
              refine HC.out.mono ?_
              rintro e w3 ⟨rfl, hg⟩
              obtain ⟨S', T', t1, t2, t3, t4, t5, t6, t7, t8, t9⟩ := trio_left (x := (K, L)) (y := (K, L)) A1.out A2.out A3.out A4.out A5.out A6.out A7.out A8.out A9.out hg
              clear c0 c1 c2 c3
              obtain ⟨c0, c1, c2, c3⟩ := box_cells t9
              have HR := Lib.hid (refFlush_any _ _ _ _ _ t2 m (by omega) (by show L.length ≤ 65536; omega) HOk.out a)
              have HP := Lib.hid (fun w' hg => pair_right t1 t2 t3 t4 t5 t6 (w' := w') (K := K) (L := L.map (flushes a)) hg)
              clear t1 t2 t3 t4 t5 t6 t7 t8 t9 hg
              go_wp2_with fail
              refine HR.out.mono ?_
              rintro e w4 ⟨rfl, hg⟩
              have HPw := Lib.hid (HP.out _ hg)
              clear hg
              go_wp2
              go_meet
              exact ⟨0, K, L.map (flushes a), rfl, rfl, by rw [List.length_map]; omega, HPw.out⟩
            · have HC := Lib.hid (Flush_out A1.out (by omega) a hv)
              have hcc : a < 0 ∨ (0 ≤ a ∧ (m : Int) ≤ a) := by unfold lined at hv; omega
              clear hv e0 n0
              rcases hcc with hc1 | ⟨hc1, hc2⟩
              · have hd3 : decide (0 ≤ a) = false := by simp; omega
                go_wp2_with fail
                refine HC.out.mono ?_
                rintro e w3 ⟨rfl, rfl⟩
                go_wp2
                go_meet
                exact ⟨2, K, L, rfl, rfl, by omega, ⟨S, T, A1.out, A2.out, A3.out, A4.out, A5.out, A6.out⟩⟩
              · have hd3 : decide (0 ≤ a) = true := by simp; omega
                have hd2 : decide (a < (m : Int)) = false := by simp; omega
                go_wp2_with fail
                refine HC.out.mono ?_
                rintro e w3 ⟨rfl, rfl⟩
                go_wp2
                go_meet
                exact ⟨2, K, L, rfl, rfl, by omega, ⟨S, T, A1.out, A2.out, A3.out, A4.out, A5.out, A6.out⟩⟩
          have n1 : (d == 1) = false := by simp; omega
          by_cases e2 : d = 2
          · subst e2
            have HC := Lib.hid (Fence_at A1.out (by omega) (by omega))
            clear e0 e1 n0 n1
            go_wp2_with fail
            refine HC.out.mono ?_
            rintro e w3 ⟨rfl, hg⟩
            obtain ⟨S', T', t1, t2, t3, t4, t5, t6, t7, t8, t9⟩ := trio_left (x := (K, L)) (y := (K, L)) A1.out A2.out A3.out A4.out A5.out A6.out A7.out A8.out A9.out hg
            have HR := Lib.hid (refFence_any _ _ _ _ _ t2 m HLn.out (by omega) (by show L.length ≤ 65536; omega) HOk.out)
            have HP := Lib.hid (fun w' hg => pair_right t1 t2 t3 t4 t5 t6 (w' := w') (K := apP K (takes isF 0 L)) (L := rests isF 0 L) hg)
            clear t1 t2 t3 t4 t5 t6 t7 t8 t9 hg c0 c1 c2 c3
            go_wp2_with fail
            refine HR.out.mono ?_
            rintro e w4 ⟨rfl, hg⟩
            have HPw := Lib.hid (HP.out _ hg)
            have hrl := rests_le isF L 0
            clear hg
            go_wp2
            go_meet
            exact ⟨0, apP K (takes isF 0 L), rests isF 0 L, rfl, rfl, by omega, HPw.out⟩
          have n2 : (d == 2) = false := by simp; omega
          by_cases e3 : d = 3
          · subst e3
            clear e0 e1 e2 n0 n1 n2
            go_wp2_with (at_builtin; refine wpList_copy_rd rfl (.const (.slice none 0 0)) (.tmp 133) _ rfl 4 i0 _ 1 1 Try.underlying33 hi0 hz0 hz1 hz2 rfl (by decide) rfl (.slice Akv kp.length ckv) kp.length (bools kp) rfl (HKr.out.below A6.out) (by rw [bools_length, Nat.mul_one]) (bools_one kp) (by unfold maxLen; omega) (by omega) ?_; intro A6' c6 w6 hown6 hb6; have Hown6 := Lib.hid hown6; have Hb6 := Lib.hid hb6; clear hown6 hb6)
            refine (Crash_at (A1.out.below Hb6.out) hm1 (by omega) (by omega) _ kp (Rd.of_own Hown6.out) ?_ (by omega)).mono ?_
            · intro b o cc hv hS
              injection hv with hv _ _
              have h3 := A1.out.lt b hS
              have h4 := (Hown6.out.lt b (by rw [hv]; rfl)).1
              omega
            rintro e w7 ⟨rfl, hg⟩
            have hlt2 : gx < W2.heap.size := (Array.getElem?_eq_some_iff.1 A9.out).1
            obtain ⟨S', T', t1, t2, t3, t4, t5, t6, t7, t8, t9⟩ := trio_left (x := (K, L)) (y := (K, L)) (A1.out.below Hb6.out) (A2.out.below Hb6.out) A3.out A4.out A5.out (below_then A6.out Hb6.out) A7.out A8.out ((Hb6.out.block gx hlt2).trans A9.out) hg
            clear c0 c1 c2 c3 hlt2
            obtain ⟨c0, c1, c2, c3⟩ := box_cells t9
            have HR := Lib.hid (refCrash_rd _ _ _ _ _ t2 m HLn.out (by omega) (by show L.length ≤ 65536; omega) HOk.out (.slice Akv kp.length ckv) kp (HKr.out.below t6) (fun W' ht => HKr.out.below (t6.trans (ht.below t6.size t5))) (by omega))
            have HP := Lib.hid (fun w' hg => pair_right t1 t2 t3 t4 t5 t6 (w' := w') (K := apP K (takes (isK kp) 0 L)) (L := []) hg)
            clear t1 t2 t3 t4 t5 t6 t7 t8 t9 hg
            go_wp2_with fail
            refine HR.out.mono ?_
            rintro e w8 ⟨rfl, hg⟩
            have HPw := Lib.hid (HP.out _ hg)
            clear hg
            go_wp2
            go_meet
            exact ⟨0, apP K (takes (isK kp) 0 L), [], rfl, rfl, by simp, HPw.out⟩
          have n3 : (d == 3) = false := by simp; omega
          clear e0 e1 e2 e3
          by_cases hv : valid m a
          · obtain ⟨k, rfl⟩ := Int.eq_ofNat_of_zero_le hv.1
            have hk8 : k < 8 * m := by have := hv.2; omega
            have HC := Lib.hid (Load_at A1.out (by omega) k hk8)
            have HI := Lib.hid (Is_yes _ _ _ _ _ A2.out m HLn.out (by omega) (k : Int) ⟨by omega, by omega⟩)
            have HR := Lib.hid (refLoad_any _ _ _ _ _ A2.out m HLn.out (by omega) (by show L.length ≤ 65536; omega) HOk.out k hk8)
            clear hv
            go_wp2_with fail
            refine HC.out.mono ?_
            rintro e w3 ⟨rfl, rfl⟩
            go_wp2_with fail
            refine HI.out.mono ?_
            rintro e w4 ⟨rfl, rfl⟩
            go_wp2_with fail
            refine HR.out.mono ?_
            rintro e w4 ⟨rfl, rfl⟩
            go_wp2
            go_meet
            exact ⟨0, K, L, rfl, rfl, by omega, ⟨S, T, A1.out, A2.out, A3.out, A4.out, A5.out, A6.out⟩⟩
          · have HC := Lib.hid (Load_out A1.out (by omega) a hv)
            have HI := Lib.hid (Is_no _ _ _ _ _ A2.out m HLn.out (by omega) a hv)
            clear hv
            go_wp2_with fail
            refine HC.out.mono ?_
            rintro e w3 ⟨rfl, rfl⟩
            go_wp2_with fail
            refine HI.out.mono ?_
            rintro e w4 ⟨rfl, rfl⟩
            go_wp2
            go_meet
            exact ⟨2, K, L, rfl, rfl, by omega, ⟨S, T, A1.out, A2.out, A3.out, A4.out, A5.out, A6.out⟩⟩
        case rest =>
          obtain ⟨z, K', L', rfl, rfl, hL', hp⟩ := hcut
          have hP0 := hp
          obtain ⟨S, T, t1, t2, t3, t4, t5, t6⟩ := hp
          obtain ⟨vk, k0, k1⟩ := t2.kept_rd
          obtain ⟨vw, w0, w1⟩ := t2.wait_rd
          have hKl := t1.2.len
          dsimp only at hKl k1 w1
          rw [hKl] at k1
          have hnl : (apP K' L').length = 8 * m := by rw [apP_length, hKl]
          obtain ⟨Ak, ck, rfl, _, _, _⟩ := id k1
          obtain ⟨Aw, cw, rfl, _, _, _⟩ := id w1
          have C0 := Lib.hid k0
          have C1 := Lib.hid w0
          have CP := Lib.hid (fun W (hW : W.cell? ⟨gr, 0, none⟩ = some (.slice Ak (8 * m) ck) ∧ W.cell? ⟨gr, 1, none⟩ = some (.slice Aw L'.length cw) ∧ Below wc.heap.size wc W) => (Pending_at (t1.below hW.2.2) (by show L'.length ≤ 65536; omega)).mono (hands_out hW.2.2))
          have CW := Lib.hid (fun W (hW : W.cell? ⟨gr, 0, none⟩ = some (.slice Ak (8 * m) ck) ∧ W.cell? ⟨gr, 1, none⟩ = some (.slice Aw L'.length cw) ∧ Below wc.heap.size wc W) => (Words_at (t1.below hW.2.2) (by omega)).mono (hands_out hW.2.2))
          have CK := Lib.hid (fun W (hW : W.cell? ⟨gr, 0, none⟩ = some (.slice Ak (8 * m) ck) ∧ W.cell? ⟨gr, 1, none⟩ = some (.slice Aw L'.length cw) ∧ Below wc.heap.size wc W) => (Kept_at (t1.below hW.2.2) (by omega)).mono (hands_out hW.2.2))
          have CR := Lib.hid (fun W (hW : W.cell? ⟨gr, 0, none⟩ = some (.slice Ak (8 * m) ck) ∧ W.cell? ⟨gr, 1, none⟩ = some (.slice Aw L'.length cw) ∧ Below wc.heap.size wc W) => (refWords_any _ _ _ _ _ (t2.below hW.2.2) m hKl hm1 (by omega) (by show L'.length ≤ 65536; omega) t1.2.ok).mono (hands_out hW.2.2))
          have CSP := Lib.hid (fun W A c (hW : W.cell? ⟨gr, 0, none⟩ = some (.slice Ak (8 * m) ck) ∧ W.cell? ⟨gr, 1, none⟩ = some (.slice Aw L'.length cw) ∧ Below wc.heap.size wc W) (hR : Rd W (.slice A L'.length c) L'.length (pends L')) => (samePends_yes (.slice A L'.length c) (.slice Aw L'.length cw) L' W hR (w1.below hW.2.2) (by omega)).mono (yes_out hW.2.2))
          have CS := Lib.hid (fun W A c B d (hW : W.cell? ⟨gr, 0, none⟩ = some (.slice Ak (8 * m) ck) ∧ W.cell? ⟨gr, 1, none⟩ = some (.slice Aw L'.length cw) ∧ Below wc.heap.size wc W) (hR : Rd W (.slice A (8 * m) c) (8 * m) (u64s (apP K' L'))) (hR2 : Rd W (.slice B (8 * m) d) (8 * m) (u64s (apP K' L'))) => (sameW_yes (.slice A (8 * m) c) (.slice B (8 * m) d) (apP K' L') (8 * m) hnl W hR hR2).mono (yes_out hW.2.2))
          have CS2 := Lib.hid (fun W A c (hW : W.cell? ⟨gr, 0, none⟩ = some (.slice Ak (8 * m) ck) ∧ W.cell? ⟨gr, 1, none⟩ = some (.slice Aw L'.length cw) ∧ Below wc.heap.size wc W) (hR : Rd W (.slice A (8 * m) c) (8 * m) (u64s K')) => (sameW_yes (.slice A (8 * m) c) (.slice Ak (8 * m) ck) K' (8 * m) hKl W hR (k1.below hW.2.2)).mono (yes_out hW.2.2))
          have HPw := Lib.hid (fun W (hb : Below wc.heap.size wc W) => pair_below hP0 hb)
          clear hP0 t1 t2 t3 t4 t5 t6 k0 k1 w0 w1 hKl hnl
          have hzz : (z != z) = false := by simp
          go_upto_region 38 with fail
          go_region_held3 (fun w' => w'.cell? ⟨gr, 0, none⟩ = some (.slice Ak (8 * m) ck) ∧ w'.cell? ⟨gr, 1, none⟩ = some (.slice Aw L'.length cw) ∧ Below wc.heap.size wc w')
            (first | assumption | exact held_of (Below.refl _ _).drew C0.out C1.out | exact held_of (by assumption) C0.out C1.out)
            (first
              | (go_at_call 25; (with_reducible refine (CP.out _ (by assumption)).mono ?_); rintro e w2 ⟨A3, c3, rfl, hRn, hbN, hbP⟩)
              | (go_at_call 24; (with_reducible refine (CSP.out _ _ _ (by assumption) (by first | assumption | exact Rd.below (by assumption) (by assumption))).mono ?_); rintro e w2 ⟨rfl, hbN, hbP⟩)
              | (go_at_call 27; (with_reducible refine (CW.out _ (by assumption)).mono ?_); rintro e w2 ⟨A3, c3, rfl, hRn, hbN, hbP⟩)
              | (go_at_call 28; (with_reducible refine (CR.out _ (by assumption)).mono ?_); rintro e w2 ⟨A3, c3, rfl, hRn, hbN, hbP⟩)
              | (go_at_call 29; (with_reducible refine (CK.out _ (by assumption)).mono ?_); rintro e w2 ⟨A3, c3, rfl, hRn, hbN, hbP⟩)
              | (go_at_call 26; (with_reducible refine (CS.out _ _ _ _ _ (by assumption) (by first | assumption | exact Rd.below (by assumption) (by assumption)) (by first | assumption | exact Rd.below (by assumption) (by assumption))).mono ?_); rintro e w2 ⟨rfl, hbN, hbP⟩)
              | (go_at_call 26; (with_reducible refine (CS2.out _ _ _ (by assumption) (by first | assumption | exact Rd.below (by assumption) (by assumption))).mono ?_); rintro e w2 ⟨rfl, hbN, hbP⟩))
          all_goals
            have hfin := Lib.hid (HPw.out _ (by assumption))
            go_wp2
            go_roundw
            case rel => first | exact ⟨j + 1, K', L', by omega, by go_num, hL', hfin.out⟩ | ((repeat apply Exists.intro); exact ⟨⟨by omega, by go_num, hL', hfin.out⟩, rfl⟩)
            case measure => simp [intOf]; omega
      · obtain rfl : j = l.length := by omega
        obtain ⟨S, T, t1, t2, t3, t4, t5, t6⟩ := htw
        have H6 := Lib.hid t6
        clear t1 t2 t3 t4 t5 t6
        go_wp2_with fail
        refine (alive_any _).mono ?_
        rintro e w' ⟨rfl, hb⟩
        have B9 := Lib.hid (below_then H6.out hb)
        clear hb
        go_wp2
        go_ret
        exact ⟨rfl, B9.out⟩
  · rcases hcase with ⟨hc1, hc2⟩ | hc1
    · have hd1 : decide (60 < n0) = true := by simp; omega
      have hd2 : decide (n0 ≤ 4096) = false := by simp; omega
      have HA := Lib.hid (New_no n0 w hno)
      have HB := Lib.hid (refNew_no n0 w hno)
      clear hno hc1 hc2
      go_wp2_with fail
      refine HA.out.mono ?_
      rintro e w1 ⟨rfl, rfl⟩
      go_wp2_with fail
      refine HB.out.mono ?_
      rintro e w1 ⟨rfl, rfl⟩
      go_wp2_with fail
      refine (alive_any _).mono ?_
      rintro e w' ⟨rfl, hb⟩
      have Hb := Lib.hid hb
      clear hb
      go_wp2
      go_ret
      exact ⟨rfl, Hb.out⟩
    · have hd1 : decide (60 < n0) = false := by simp; omega
      have HA := Lib.hid (New_no n0 w hno)
      have HB := Lib.hid (refNew_no n0 w hno)
      clear hno hc1
      go_wp2_with fail
      refine HA.out.mono ?_
      rintro e w1 ⟨rfl, rfl⟩
      go_wp2_with fail
      refine HB.out.mono ?_
      rintro e w1 ⟨rfl, rfl⟩
      go_wp2_with fail
      refine (alive_any _).mono ?_
      rintro e w' ⟨rfl, hb⟩
      have Hb := Lib.hid hb
      clear hb
      go_wp2
      go_ret
      exact ⟨rfl, Hb.out⟩
end Go.Proofs.Ytdkcghicobakhaa
