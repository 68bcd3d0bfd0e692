/- The walk of the law InodeBack. -/
import Derived.Test.YtnpmepklgakaiaaDoorInodeBackA
namespace Go.Proofs.YtnpmepklgakaiaaDoor
open Go.RowKit
set_option linter.unusedVariables false

theorem xor_one (z r : Nat) (hz : z < 18446744073709551616) (hr : r < 64) : bits BinOp.xor IntKind.u64 (z : Int) (IntKind.u64.wrap (2 ^ r)) = ((z ^^^ 2 ^ r : Nat) : Int) := by
  have h2 : 2 ^ r < 18446744073709551616 := Nat.pow_lt_pow_right (a := 2) (n := 64) (by decide) hr
  have e : IntKind.u64.wrap (2 ^ r) = ((2 ^ r : Nat) : Int) := by
    rw [IntKind.wrap_u64, show ((2 : Int) ^ r) = ((2 ^ r : Nat) : Int) by simp]
    generalize 2 ^ r = q at *
    omega
  rw [e]
  exact u64_xor_nat z (2 ^ r) hz h2

set_option maxRecDepth 100000 in
set_option maxHeartbeats 16000000 in
theorem inodeBack_walk (w : World) (hg : Laid w) (x : Ino) (hx : OkI x) (P I B : Int) (hP : I64 P) (hI : I64 I) (hB : I64 B) (at_ : Nat) (hat : at_ < 65536) (turns : Nat) (ht : turns < 4294967296) (v : Value) (s : List Nat) (hs : ∀ y ∈ s, y < 2 ^ 64) (hr : Rd w v s.length (u64s s)) :
    Calls Tryd.prog 5 #[iv x, gv P I B, .int .u16 at_, .int .u32 turns, v] w fun e w' => e = .returned (.bool true) ∧ Below w.heap.size w w' := by
  have HG := Lib.hid hg
  have HA := Lib.hid (fun W (hW : Below w.heap.size w W) => alive_any W (HG.out.below hW))
  obtain ⟨hB1, hB2⟩ := boxes2 x P I B w
  have hB0 := ((Below.refl w.heap.size w).alloc (Nat.le_refl _) (.cells (icells x) 25)).alloc (by simp) (.cells #[.int .i64 P, .int .i64 I, .int .i64 B] 27)
  have HM := Lib.hid (May_any x hx P I B)
  have HW := Lib.hid (show ∀ x ∈ s, x < 18446744073709551616 from hs)
  have HR0 := Lib.hid (hr.below hB0)
  have HB0 := Lib.hid hB0
  have HGe := Lib.hid hB2
  have HX0 := Lib.hid hB1
  have HD := Lib.hid (fun v s W hw hl hr => Decode_ex v s P I B W hw hl hr)
  have HEy := Lib.hid (fun x hx hm W => Encode_yes x hx P I B hm W)
  have HEn := Lib.hid (fun hm W => Encode_no x hx P I B hm W)
  have HDy := Lib.hid (fun (hm : mayI x P I B = true) => Decode_encI x hx P I B hm)
  have HDt := Lib.hid (fun (hm : mayI x P I B = true) => dec_turnedI x hx P I B hm)
  have HMi := Lib.hid (mayI_iff x hx P I B)
  have HOx := Lib.hid hx
  obtain ⟨A, c, rfl, h1, h2, h3⟩ := hr
  unfold maxLen at h2
  clear h3 hg hs hP hI hB hB0 hB1 hB2 hx
  obtain ⟨k, ln, gn, sz, ar, mp, q0, q1, q2, q3, pa, mt, ct⟩ := x
  unfold iv gv icells at HM HEn
  unfold iv gv icells at HEy HDy
  unfold gv at HD ⊢
  unfold icells at HB0 HX0 HGe HR0
  unfold iv icells
  dsimp only at HM HEn HDy HB0 HX0 HGe HR0 ⊢
  by_cases hbig : 40 < s.length
  · have hd : decide ((40 : Int) < (s.length : Int)) = true := by simp; omega
    clear hbig
    go_enter Tryd.func5, Tryd.ntmps5
    go_wp2_with fail
    refine (HA.out _ HB0.out).mono ?_
    rintro e w1 ⟨rfl, hb⟩
    have HB := Lib.hid (below_then HB0.out hb)
    clear hb
    go_wp2
    go_ret
    exact ⟨rfl, HB.out⟩
  have hd : decide ((40 : Int) < (s.length : Int)) = false := by simp; omega
  have hlb : s.length ≤ 40 := by omega
  clear hbig
  obtain ⟨K, hKd⟩ : ∃ K, K = at_ % 481 := ⟨_, rfl⟩
  have hK : ((at_ : Int) % 481) = (K : Int) := by omega
  have hKlt : K < 481 := by omega
  have hne := run_neI_self
  have hgd := guard_eqI
  clear hKd
  go_enter Tryd.func5, Tryd.ntmps5
  go_upto_region 3 with (fail)
  generalize (w.alloc (.cells #[.int .u8 (k : Nat), .int .i64 ln, .int .u32 (gn : Nat), .int .i64 sz, .int .i64 ar, .int .i64 mp, .int .i64 q0, .int .i64 q1, .int .i64 q2, .int .i64 q3, .int .i64 pa, .int .i64 mt, .int .i64 ct] 25)).alloc (.cells #[.int .i64 P, .int .i64 I, .int .i64 B] 27) = w0 at *
  have hK0 := blk3 HGe.out
  have HK0 := Lib.hid (And.intro hK0.1 (And.intro hK0.2.1 hK0.2.2.1))
  clear hK0
  go_cut [11, 12] from 25 to 31 (fun s11 s12 wx => ∃ b11 : Nat, s11 = .pointer (some ⟨b11, 0, none⟩) ∧ (∃ y : Ino, DecW s P I B y s12 ∧ BoxI wx b11 y) ∧ Below w0.heap.size w0 wx)
  case first =>
    have HLl := Lib.hid (show s.length ≤ 4294967296 by omega)
    have HLm := Lib.hid (show s.length ≤ 65536 by omega)
    have HRd := Lib.hid (fun W (hW : Below w0.heap.size w0 W) => HR0.out.below hW)
    clear HA HEy HEn HDy HDt HMi HM hne hgd hd
    go_region_held3 (fun w' => (w'.cell? ⟨w.heap.size + 1, 0, none⟩ = some (.int .i64 P) ∧ w'.cell? ⟨w.heap.size + 1, 1, none⟩ = some (.int .i64 I) ∧ w'.cell? ⟨w.heap.size + 1, 2, none⟩ = some (.int .i64 B)) ∧ Below w0.heap.size w0 w')
      (with_reducible refine keepG HK0.out ?_; with_reducible repeat (first | exact right_of (by assumption) | exact HBD.out | exact HBN.out | exact Below.refl _ _ | exact Nat.le_refl _ | refine Below.drew ?_ | refine Below.alloc ?_ ?_ _ | refine below_set13 ?_ ?_ | exact HBD.out.size | exact Nat.le_succ_of_le HBD.out.size | exact HBN.out.size | exact Nat.le_succ_of_le HBN.out.size | refine Below.size (B := w0.heap.size) ?_ | exact Nat.le_succ _ | refine Nat.le_succ_of_le ?_ | refine below_then ?_ hbN))
      (first
        | ((with_reducible refine step_copy64 rfl (.const (.slice none 0 0)) (.tmp 26) rfl rfl _ s _ rfl rfl (HRd.out _ (right_of (by assumption))) HLl.out ?_); intro A1 c1 wN hown hbN; have HR1 := Lib.hid (Rd.of_own hown); clear hown; (have HBN : Hid (Below w0.heap.size w0 wN) := Lib.hid (below_then (right_of (by assumption)) hbN)); (first | (with_reducible have HBx := Lib.hid (bx_drew hbN)) | (with_reducible have HBx := Lib.hid (bx_new hbN)) | skip))
        | (go_at_call 15; (with_reducible refine (HD.out _ s _ HW.out HLm.out (by repeat (first | exact HR1.out | refine Rd.drew ?_ | refine Rd.alloc ?_ _))).mono ?_); rintro e wD ⟨k', ln', gn', sz', ar', mp', h0', h1', h2', h3', pa', mt', ct', ev, rfl, hdw, hbN⟩; have HDW := Lib.hid hdw; clear hdw; (first | (with_reducible have hBx := bx_new hbN) | (with_reducible have hBx := blk_below HBx.out hbN) | skip); (have HBD : Hid (Below w0.heap.size w0 wD) := Lib.hid (below_then (right_of (by assumption)) hbN)); (try simp only [World.size_alloc] at hBx); (first | (obtain ⟨z0, z1, z2, z3, z4, z5, z6, z7, z8, z9, z10, z11, z12⟩ := blk13 hBx; obtain ⟨f0, f1, f2, f3, f4, f5, f6, f7, f8, f9, f10, f11, f12⟩ := frz13 hBx; clear hBx) | skip)))
    all_goals go_wp2_with fail
    all_goals go_meet
    · exact ⟨_, rfl, ⟨⟨k', ln', gn', sz', ar', mp', h0', h1', h2', h3', pa', mt', ct'⟩, HDW.out, blk13 (heap_alloc_new wD _)⟩, HBD.out.alloc HBD.out.size _⟩
    · exact ⟨_, rfl, ⟨⟨k', ln', gn', sz', ar', mp', h0', h1', h2', h3', pa', mt', ct'⟩, HDW.out, box_set13 z0 z1 z2 z3 z4 z5 z6 z7 z8 z9 z10 z11 z12⟩, below_set13 HBD.out HBN.out.size⟩
    · exact ⟨_, rfl, ⟨⟨k', ln', gn', sz', ar', mp', h0', h1', h2', h3', pa', mt', ct'⟩, HDW.out, box_set13 z0 z1 z2 z3 z4 z5 z6 z7 z8 z9 z10 z11 z12⟩, below_set13 HBD.out (Nat.le_refl _)⟩
  case rest =>
    obtain ⟨b11, rfl, ⟨y, hdw, hbx⟩, hb1⟩ := hcut
    have HB1 := Lib.hid hb1
    have HY := Lib.hid hbx
    obtain ⟨nb, hq, hgq, hnb⟩ : ∃ nb : Bool, (∀ W, (binOp .eql 40 u12 .nilIface).run Tryd.prog W = .ok (.bool nb) W) ∧ (∀ W, (eqGuard .eql 40 (.tmp 32) (.const .nilIface) u12 .nilIface).run Tryd.prog W = .ok () W) ∧ (nb = true → decF s P I B = none ∧ y = recOf (s.take 7)) := by
      rcases hdw with ⟨hd, hy, rfl⟩ | ⟨a, er, _, rfl⟩
      · exact ⟨true, nil_eq, nil_guard, fun _ => ⟨hd, hy⟩⟩
      · exact ⟨false, fun W => fault_eq W a er, fun W => fault_guard W a er, fun h => by cases h⟩
    have HNb := Lib.hid hnb
    clear hdw hbx hb1 hnb
    go_upto_if 33 with fail
    go_cut [13, 14] from 34 to 47 (fun s13 s14 wx => Below w0.heap.size w0 wx)
    case first =>
      clear HA HEn HDy HDt HMi HM hne hgd hd hq hgq
      cases nb with
      | false =>
        go_wp2_with fail
        go_meet
        exact HB1.out
      | true =>
        obtain ⟨hdn, hyr⟩ := HNb.out rfl
        obtain ⟨hl8, hE⟩ := Encode_dec s HW.out P I B hdn y hyr
        have HE := Lib.hid hE
        have HL8 := Lib.hid hl8
        unfold iv gv icells at HE
        have hgc := blk3 (blk_below HGe.out HB1.out)
        obtain ⟨g0, g1, g2, _, _, _⟩ := hgc
        obtain ⟨c0, c1, c2, c3, c4, c5, c6, c7, c8, c9, c10, c11, c12⟩ := HY.out
        clear hdn hyr hE hl8 HNb
        go_wp2_with fail
        refine (HE.out _).mono ?_
        rintro e w2 ⟨A2, l2, rfl, hr2, hb2⟩
        have HR2 := Lib.hid hr2
        have HB2 := Lib.hid (below_then HB1.out hb2)
        clear hr2 hb2 g0 g1 g2 c0 c1 c2 c3 c4 c5 c6 c7 c8 c9 c10 c11 c12
        go_wp2_with fail
        refine (sameW_yes2 _ _ s 8 s.length HL8.out rfl _ HR2.out (HR0.out.below HB2.out)).mono ?_
        rintro e w3 ⟨rfl, hb3⟩
        have HB3 := Lib.hid (below_then HB2.out hb3)
        clear hb3
        go_wp2_with fail
        go_meet
        exact HB3.out
    case rest =>
      have HBc := Lib.hid hcut
      clear hcut HNb HY HB1 hq hgq
      have hgc := blk3 (blk_below HGe.out HBc.out)
      obtain ⟨g0, g1, g2, _, _, _⟩ := hgc
      obtain ⟨c0, c1, c2, c3, c4, c5, c6, c7, c8, c9, c10, c11, c12⟩ := blk13 (blk_below HX0.out HBc.out)
      clear HR0 HK0 hd
      cases hmay : mayI ⟨k, ln, gn, sz, ar, mp, q0, q1, q2, q3, pa, mt, ct⟩ P I B with
      | false =>
        have HE := Lib.hid (HEn.out hmay)
        rw [hmay] at HM
        clear hmay HEn HEy HDy HDt HMi HOx HD
        go_wp2_with fail
        refine (HE.out _).mono ?_
        rintro e w2 ⟨rfl, hb2⟩
        have HB2 := Lib.hid (below_then HBc.out hb2)
        clear hb2 g0 g1 g2 c0 c1 c2 c3 c4 c5 c6 c7 c8 c9 c10 c11 c12
        have hgc := blk3 (blk_below HGe.out HB2.out)
        obtain ⟨g0, g1, g2, _, _, _⟩ := hgc
        obtain ⟨c0, c1, c2, c3, c4, c5, c6, c7, c8, c9, c10, c11, c12⟩ := blk13 (blk_below HX0.out HB2.out)
        go_wp2_with fail
        refine (HM.out _).mono ?_
        rintro e w3 ⟨rfl, hb3⟩
        have HB3 := Lib.hid (below_then HB2.out hb3)
        clear hb3 g0 g1 g2 c0 c1 c2 c3 c4 c5 c6 c7 c8 c9 c10 c11 c12
        go_wp2_with fail
        refine (HA.out _ (below_then HB0.out HB3.out)).mono ?_
        rintro e w4 ⟨rfl, hb4⟩
        have HB4 := Lib.hid (below_then HB3.out hb4)
        clear hb4
        go_wp2
        go_ret
        exact ⟨rfl, below_then HB0.out HB4.out⟩
      | true =>
        have HE := Lib.hid (HEy.out _ HOx.out hmay)
        have HDx := Lib.hid (HDy.out hmay)
        have HDtx := Lib.hid (HDt.out hmay)
        have HSm := (HMi.out.1 hmay).1
        have HOw := ofI_words _ HOx.out HSm
        have HLw := Lib.hid (show ∀ y ∈ sealed (wordsI ⟨k, ln, gn, sz, ar, mp, q0, q1, q2, q3, pa, mt, ct⟩), y < 18446744073709551616 from sealed_wd (wordsI_wd _ HOx.out HSm))
        have HL8 := Lib.hid (show (sealed (wordsI ⟨k, ln, gn, sz, ar, mp, q0, q1, q2, q3, pa, mt, ct⟩)).length = 8 from rfl)
        rw [HOw] at HE
        dsimp only at HE
        clear hmay HEn HEy HDy HDt HMi HOx HOw HSm HM
        generalize sealed (wordsI ⟨k, ln, gn, sz, ar, mp, q0, q1, q2, q3, pa, mt, ct⟩) = L at *
        go_wp2_with fail
        refine (HE.out _).mono ?_
        rintro e w2 ⟨A2, l2, rfl, ho2, hb2⟩
        obtain ⟨g5, cap5, hv5, hg5, hlt5⟩ := World.ownsRow.form (n := 8) ho2 (by omega)
        injection hv5 with hA5 _ hc5
        subst hA5
        subst hc5
        have hg5' : w0.heap.size ≤ g5 := Nat.le_trans HBc.out.size hg5
        have HO2 := Lib.hid (own_mono ho2 HBc.out.size)
        have HR2 := Lib.hid (Rd.of_own ho2)
        have HB2 := Lib.hid (below_then HBc.out hb2)
        clear hb2 ho2 hg5 hlt5 g0 g1 g2 c0 c1 c2 c3 c4 c5 c6 c7 c8 c9 c10 c11 c12 HE HBc
        have hK2 := blk3 (blk_below HGe.out HB2.out)
        have HK2 := Lib.hid (And.intro hK2.1 (And.intro hK2.2.1 hK2.2.2.1))
        clear hK2
        go_upto_region 11 with (fail)
        go_cut [17, 18] from 68 to 74 (fun s17 s18 wx => ∃ b17 : Nat, s17 = .pointer (some ⟨b17, 0, none⟩) ∧ s18 = .nilIface ∧ BoxI wx b17 ⟨k, ln, gn, sz, ar, mp, q0, q1, q2, q3, pa, mt, ct⟩ ∧ Below w2.heap.size w2 wx)
        case first =>
          have HLl := Lib.hid (show 8 ≤ 4294967296 by decide)
          have HRd := Lib.hid (fun W (hW : Below w2.heap.size w2 W) => HR2.out.below hW)
          clear HA hne hgd HDtx HB0 HX0 HGe
          go_region_held3 (fun w' => (w'.cell? ⟨w.heap.size + 1, 0, none⟩ = some (.int .i64 P) ∧ w'.cell? ⟨w.heap.size + 1, 1, none⟩ = some (.int .i64 I) ∧ w'.cell? ⟨w.heap.size + 1, 2, none⟩ = some (.int .i64 B)) ∧ Below w2.heap.size w2 w')
            (with_reducible refine keepG HK2.out ?_; with_reducible repeat (first | exact right_of (by assumption) | exact HBD.out | exact HBN.out | exact Below.refl _ _ | exact Nat.le_refl _ | refine Below.drew ?_ | refine Below.alloc ?_ ?_ _ | refine below_set13 ?_ ?_ | exact HBD.out.size | exact Nat.le_succ_of_le HBD.out.size | exact HBN.out.size | exact Nat.le_succ_of_le HBN.out.size | refine Below.size (B := w2.heap.size) ?_ | exact Nat.le_succ _ | refine Nat.le_succ_of_le ?_ | refine below_then ?_ hbN))
            (first
              | ((with_reducible refine step_copy64 rfl (.const (.slice none 0 0)) (.tmp 69) rfl rfl _ L 8 HL8.out rfl (HRd.out _ (right_of (by assumption))) HLl.out ?_); intro A1 c1 wN hown hbN; have HR1 := Lib.hid (Rd.of_own hown); clear hown; (have HBN : Hid (Below w2.heap.size w2 wN) := Lib.hid (below_then (right_of (by assumption)) hbN)); (first | (with_reducible have HBx := Lib.hid (bx_drew hbN)) | (with_reducible have HBx := Lib.hid (bx_new hbN)) | skip))
              | (go_at_call 15; (with_reducible refine (HDx.out _ _ (by repeat (first | exact HR1.out | refine Rd.drew ?_ | refine Rd.alloc ?_ _))).mono ?_); rintro e wD ⟨rfl, hbN⟩; (first | (with_reducible have hBx := bx_new hbN) | (with_reducible have hBx := blk_below HBx.out hbN) | skip); (have HBD : Hid (Below w2.heap.size w2 wD) := Lib.hid (below_then (right_of (by assumption)) hbN)); (try simp only [World.size_alloc] at hBx); (first | (obtain ⟨z0, z1, z2, z3, z4, z5, z6, z7, z8, z9, z10, z11, z12⟩ := blk13 hBx; obtain ⟨f0, f1, f2, f3, f4, f5, f6, f7, f8, f9, f10, f11, f12⟩ := frz13 hBx; clear hBx) | skip)))
          all_goals go_wp2_with fail
          all_goals go_meet
          · exact ⟨_, rfl, rfl, blk13 (heap_alloc_new wD _), HBD.out.alloc HBD.out.size _⟩
          · exact ⟨_, rfl, rfl, box_set13 z0 z1 z2 z3 z4 z5 z6 z7 z8 z9 z10 z11 z12, below_set13 HBD.out HBN.out.size⟩
          · exact ⟨_, rfl, rfl, box_set13 z0 z1 z2 z3 z4 z5 z6 z7 z8 z9 z10 z11 z12, below_set13 HBD.out (Nat.le_refl _)⟩
        case rest =>
          obtain ⟨b17, rfl, rfl, hbx, hb3⟩ := hcut
          have HO3 := Lib.hid (own_below HO2.out hb3)
          have HB3 := Lib.hid (below_then HB2.out hb3)
          obtain ⟨y0, y1, y2, y3, y4, y5, y6, y7, y8, y9, y10, y11, y12⟩ := hbx
          obtain ⟨c0, c1, c2, c3, c4, c5, c6, c7, c8, c9, c10, c11, c12⟩ := blk13 (blk_below HX0.out HB3.out)
          clear hb3 HR2 HO2 HB2 HK2 HDx
          dsimp only at y0 y1 y2 y3 y4 y5 y6 y7 y8 y9 y10 y11 y12
          go_wp2_with fail
          clear c0 c1 c2 c3 c4 c5 c6 c7 c8 c9 c10 c11 c12 y0 y1 y2 y3 y4 y5 y6 y7 y8 y9 y10 y11 y12 HX0 hne hgd
          go_loopw [20] (fun q wr => ∃ j : Nat, j ≤ 32 ∧ q = .int .i64 j ∧ wr.ownsRow w0.heap.size 44 1 (.slice (some ⟨g5, 0, none⟩) 8 l2) 8 (u64s (turnsTo L K turns j)) ∧ Below w0.heap.size w0 wr) (fun q _ => 32 - (intOf q).toNat)
          case atStart => exact ⟨0, Nat.zero_le _, rfl, HO3.out, HB3.out⟩
          case round =>
            obtain ⟨j, hj, rfl, hown, hbel⟩ := hrel
            have hlen : (turnsTo L K turns j).length = 8 := by rw [turnsTo_length]; exact HL8.out
            have hwd := turnsTo_wd HLw.out K turns j
            by_cases hlt : j < 32
            · have hsucc : turnsTo L K turns (j + 1) = if turns / 2 ^ j % 2 = 1 then turn (turnsTo L K turns j) (K + j) else turnsTo L K turns j := rfl
              generalize turnsTo L K turns j = y at *
              have Hsucc := Lib.hid hsucc
              have hq : (K + j) / 64 < y.length := by rw [hlen]; omega
              have hz := hown.cellAt ((K + j) / 64) (by omega)
              rw [u64s_at hq] at hz
              have hyd : y.getD ((K + j) / 64) 0 = y[(K + j) / 64] := by simp [List.getD, hq]
              have hyq : y[(K + j) / 64] < 18446744073709551616 := hwd _ (List.getElem_mem hq)
              generalize y[(K + j) / 64] = z at *
              have Hyd := Lib.hid hyd
              have hf := hown.frozenAt ((K + j) / 64)
              have hqi : ((K : Int) + (j : Int)) / 64 < 8 := by omega
              have hqn : (K + j) / 64 < 8 := by omega
              have Hown := Lib.hid hown
              have Hbel := Lib.hid hbel
              clear hsucc hyd hown hbel hlen hwd hq
              by_cases hbit : turns / 2 ^ j % 2 = 1
              · have Hbit := Lib.hid hbit
                have hbb : (((turns : Int) / 2 ^ j).tmod 2 == 1) = true := by
                  rw [div_pow, beq_iff_eq]
                  show (((turns / 2 ^ j % 2 : Nat) : Int)) = 1
                  omega
                clear hbit
                go_wp2_with fail
                go_roundw
                case rel =>
                  refine ⟨j + 1, by omega, by go_num, ?_, ?_⟩
                  · rw [xor_one z _ hyq (Nat.mod_lt _ (by decide))]
                    have h7 := (Hown.out.stored ((K + j) / 64) (.int .u64 ((z ^^^ 2 ^ ((K + j) % 64) : Nat) : Int))).1
                    rw [u64s_setAt] at h7
                    rw [Hsucc.out, if_pos Hbit.out]
                    unfold turn
                    rw [Hyd.out]
                    exact h7
                  · exact Hbel.out.setCell (p := ⟨g5, (K + j) / 64, none⟩) hg5' _
                case measure => simp [intOf]; omega
              · have Hbit := Lib.hid hbit
                have hbb : (((turns : Int) / 2 ^ j).tmod 2 == 1) = false := by
                  rw [div_pow, beq_eq_false_iff_ne]
                  show ¬ (((turns / 2 ^ j % 2 : Nat) : Int)) = 1
                  omega
                clear hbit
                go_wp2_with fail
                go_roundw
                case rel =>
                  refine ⟨j + 1, by omega, by go_num, ?_, Hbel.out⟩
                  rw [Hsucc.out, if_neg Hbit.out]
                  exact Hown.out
                case measure => simp [intOf]; omega
            · obtain rfl : j = 32 := by omega
              have hdt := HDtx.out K turns ht (by omega)
              generalize turnsTo L K turns 32 = y at *
              have Hdt := Lib.hid hdt
              have HDw := Lib.hid (HD.out (.slice (some ⟨g5, 0, none⟩) 8 l2) y wr hwd (by rw [hlen]; decide) (by rw [hlen]; exact Rd.of_own hown))
              have HBy := Lib.hid hbel
              obtain ⟨g0, g1, g2, _, _, _⟩ := blk3 (blk_below HGe.out hbel)
              clear hdt hown hwd hlen hbel HD HDtx
              by_cases h0 : turns = 0
              · have hz0 : ((turns : Int) == 0) = true := by simp; omega
                have Hd0 := Lib.hid (Hdt.out.2 h0)
                clear h0
                go_wp2_with fail
                refine HDw.out.mono ?_
                rintro e w8 ⟨_, _, _, _, _, _, _, _, _, _, _, _, _, ev, rfl, hdw, hb8⟩
                have HB9 := Lib.hid (below_then HBy.out hb8)
                rcases hdw with ⟨_, _, rfl⟩ | ⟨a, er, hd8, _⟩
                case inr => rw [Hd0.out] at hd8; cases hd8
                clear hb8 g0 g1 g2
                go_wp2_with fail
                refine (HA.out _ (below_then HB0.out HB9.out)).mono ?_
                rintro e w9 ⟨rfl, hb9⟩
                have HB10 := Lib.hid (below_then HB9.out hb9)
                clear hb9
                go_wp2
                go_ret
                exact ⟨rfl, below_then HB0.out HB10.out⟩
              · have hz0 : ((turns : Int) == 0) = false := by simp; omega
                have Hd0 := Lib.hid (fun h => h0 (Hdt.out.1 h))
                clear h0
                go_wp2_with fail
                refine HDw.out.mono ?_
                rintro e w8 ⟨_, _, _, _, _, _, _, _, _, _, _, _, _, ev, rfl, hdw, hb8⟩
                have HB9 := Lib.hid (below_then HBy.out hb8)
                rcases hdw with ⟨hd8, _, _⟩ | ⟨a, er, hd8, rfl⟩
                case inl => exact (Hd0.out hd8).elim
                clear hb8 hd8 g0 g1 g2
                go_wp2_with fail
                refine (HA.out _ (below_then HB0.out HB9.out)).mono ?_
                rintro e w9 ⟨rfl, hb9⟩
                have HB10 := Lib.hid (below_then HB9.out hb9)
                clear hb9
                go_wp2
                go_ret
                exact ⟨rfl, below_then HB0.out HB10.out⟩
end Go.Proofs.YtnpmepklgakaiaaDoor
