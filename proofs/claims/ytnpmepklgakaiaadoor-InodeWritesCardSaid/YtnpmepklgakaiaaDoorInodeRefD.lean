/- parcloseref06.Decode: where words are no record ahead of their seal. parcloseref06.Decode: the length, the seal, the words. -/
import Derived.Test.YtnpmepklgakaiaaDoorInodeDec
import Derived.Test.YtnpmepklgakaiaaDoorInodeRefC
import Derived.Test.YtnpmepklgakaiaaDoorSumRef
import Derived.Test.YtnpmepklgakaiaaDoorGeomMay
import Derived.BigRegion
import Derived.Deep.RegionHeld3
namespace Go.Proofs.YtnpmepklgakaiaaDoor
section
open Go.RowKit
set_option linter.unusedVariables false

theorem blk2 {W : World} {b : Nat} {v0 v1 : Value} {t : TypeId} (h : W.heap[b]? = some (.cells #[v0, v1] t (0, 0))) :
    W.cell? ⟨b, 0, none⟩ = some v0 ∧ W.cell? ⟨b, 1, none⟩ = some v1 ∧ W.frozen? ⟨b, 0, none⟩ = false ∧ W.frozen? ⟨b, 1, none⟩ = false := by
  refine ⟨?_, ?_, ?_, ?_⟩ <;> simp [World.cell?, World.frozen?, h]
/-- the three boxes of the call: the geometry, the record, the fault -/
structure ThreeB (P I B : Int) (w wr : World) : Prop where
  geo : wr.heap[w.heap.size]? = some (.cells #[.int .i64 P, .int .i64 I, .int .i64 B] 27 (0, 0))
  rec_ : wr.heap[w.heap.size + 1]? = some (.cells zcells 25 (0, 0))
  flt : wr.heap[w.heap.size + 2]? = some (.cells #[.int .i64 0, .int .i64 0] 52 (0, 0))
  bel : Below w.heap.size w wr
theorem ThreeB.new (P I B : Int) (w : World) : ThreeB P I B w (((w.alloc (.cells #[.int .i64 P, .int .i64 I, .int .i64 B] 27)).alloc (.cells zcells 25)).alloc (.cells #[.int .i64 0, .int .i64 0] 52)) := by
  obtain ⟨h1, h2⟩ := boxesZ P I B w
  refine ⟨(heap_alloc_old _ _ (by simp; omega)).trans h1, (heap_alloc_old _ _ (by simp)).trans h2, ?_, (((Below.refl _ _).alloc (Nat.le_refl _) _).alloc (by simp) _).alloc (by simp; omega) _⟩
  have := heap_alloc_new ((w.alloc (.cells #[.int .i64 P, .int .i64 I, .int .i64 B] 27)).alloc (.cells zcells 25)) (.cells #[.int .i64 0, .int .i64 0] 52)
  rw [World.size_alloc, World.size_alloc] at this
  exact this
theorem ThreeB.below {P I B : Int} {w wr wr' : World} (h : ThreeB P I B w wr) (hb : Below wr.heap.size wr wr') : ThreeB P I B w wr' :=
  ⟨blk_below h.geo hb, blk_below h.rec_ hb, blk_below h.flt hb, below_then h.bel hb⟩
theorem refOpen_ok (v : Value) (l : List Nat) (n : Nat) (hn : l.length = n) (ho : opens l = true) (w : World) (h : Rd w v n (u64s l)) (hw : Wd l) (hl : n ≤ 65536) :
    Calls Tryd.prog 32 #[v] w fun r w' => ∃ A k c, r = .returned (.tuple #[.slice A k c, .bool true]) ∧ Below w.heap.size w w' := by
  subst hn
  refine (refOpen_any v l w h hw hl).mono fun e w' hh => ?_
  obtain ⟨A2, c2, rfl, _, hb2⟩ := hh.yes ho
  exact ⟨_, _, _, rfl, hb2⟩
theorem refOpen_no (v : Value) (l : List Nat) (n : Nat) (hn : l.length = n) (ho : opens l = false) (w : World) (h : Rd w v n (u64s l)) (hw : Wd l) (hl : n ≤ 65536) :
    Calls Tryd.prog 32 #[v] w fun r w' => r = .returned (.tuple #[.slice none 0 0, .bool false]) ∧ Below w.heap.size w w' := by
  subst hn
  exact (refOpen_any v l w h hw hl).mono fun e w' hh => hh.no (by rw [ho]; decide)
/-- what parcloseref06.Decode answers -/
def RDecI (w : World) (s : List Nat) (P I B : Int) (e : Ending) (w' : World) : Prop :=
  (decF s P I B = none ∧ e = .returned (.tuple #[iv (recOf (s.take 7)), .agg #[.int .i64 0, .int .i64 0]]) ∧ Below w.heap.size w w') ∨
  (∃ a er : Int, decF s P I B = some (a, er) ∧ e = .returned (.tuple #[iv zeroI, .agg #[.int .i64 a, .int .i64 er]]) ∧ Below w.heap.size w w')

set_option maxRecDepth 100000 in
set_option maxHeartbeats 8000000 in
theorem rdec_geo (v : Value) (s : List Nat) (P I B : Int) (W : World) (hr : Rd W v s.length (u64s s)) (hG : ¬ MayG P I B) :
    Calls Tryd.prog 18 #[v, gv P I B] W (RDecI W s P I B) := by
  obtain ⟨A, c, rfl, hc1, hc2, _⟩ := hr
  have HT0 := Lib.hid (ThreeB.new P I B W)
  have HC := Lib.hid (fun W => refMay_no P I B hG W)
  have HD := Lib.hid (show decF s P I B = some (0, 2) by unfold decF; rw [if_pos hG])
  unfold gv at HC ⊢
  unfold zcells at HT0
  clear hG
  go_enter Tryd.func18, Tryd.ntmps18
  go_wp2_with fail
  refine (HC.out _).mono ?_
  rintro e w1 ⟨rfl, hb1⟩
  have ht1 := HT0.out.below hb1
  have HT1 := Lib.hid ht1
  obtain ⟨z0, z1, z2, z3, z4, z5, z6, z7, z8, z9, z10, z11, z12⟩ := blk13 ht1.rec_
  obtain ⟨f0, f1, f2, f3, f4, f5, f6, f7, f8, f9, f10, f11, f12⟩ := frz13 ht1.rec_
  obtain ⟨k0, k1, k2, k3⟩ := blk2 ht1.flt
  clear hb1 ht1
  go_wp2
  refine bodyPost_ret (v := .tuple #[.agg #[.int .u8 0, .int .i64 0, .int .u32 0, .int .i64 0, .int .i64 0, .int .i64 0, .int .i64 0, .int .i64 0, .int .i64 0, .int .i64 0, .int .i64 0, .int .i64 0, .int .i64 0], .agg #[.int .i64 0, .int .i64 2]]) (by unfold results; go_simp) rfl (.inr ⟨_, _, HD.out, by rw [iv_zero], ?_⟩)
  repeat (refine Below.setCell ?_ (by dsimp only; omega) _)
  exact HT1.out.bel
end
section
open Go.RowKit
set_option linter.unusedVariables false

set_option maxRecDepth 100000 in
set_option maxHeartbeats 8000000 in
theorem rdec_len (v : Value) (s : List Nat) (P I B : Int) (W : World) (hr : Rd W v s.length (u64s s)) (hG : MayG P I B) (h8 : ¬ s.length = 8) :
    Calls Tryd.prog 18 #[v, gv P I B] W (RDecI W s P I B) := by
  obtain ⟨A, c, rfl, hc1, hc2, _⟩ := hr
  have HT0 := Lib.hid (ThreeB.new P I B W)
  have HC := Lib.hid (fun W => refMay_yes P I B hG W)
  have hd : ((s.length : Int) != 8) = true := by simp; omega
  have HD := Lib.hid (show decF s P I B = some (0, 7) by unfold decF; rw [if_neg (fun h => h hG), if_pos h8])
  unfold gv at HC ⊢
  unfold zcells at HT0
  clear hG h8
  go_enter Tryd.func18, Tryd.ntmps18
  go_wp2_with fail
  refine (HC.out _).mono ?_
  rintro e w1 ⟨rfl, hb1⟩
  have ht1 := HT0.out.below hb1
  have HT1 := Lib.hid ht1
  obtain ⟨z0, z1, z2, z3, z4, z5, z6, z7, z8, z9, z10, z11, z12⟩ := blk13 ht1.rec_
  obtain ⟨f0, f1, f2, f3, f4, f5, f6, f7, f8, f9, f10, f11, f12⟩ := frz13 ht1.rec_
  obtain ⟨k0, k1, k2, k3⟩ := blk2 ht1.flt
  clear hb1 ht1
  go_wp2
  refine bodyPost_ret (v := .tuple #[.agg #[.int .u8 0, .int .i64 0, .int .u32 0, .int .i64 0, .int .i64 0, .int .i64 0, .int .i64 0, .int .i64 0, .int .i64 0, .int .i64 0, .int .i64 0, .int .i64 0, .int .i64 0], .agg #[.int .i64 0, .int .i64 7]]) (by unfold results; go_simp) rfl (.inr ⟨_, _, HD.out, by rw [iv_zero], ?_⟩)
  repeat (refine Below.setCell ?_ (by dsimp only; omega) _)
  exact HT1.out.bel
set_option maxRecDepth 100000 in
set_option maxHeartbeats 8000000 in
theorem rdec_seal (A : Option Addr) (c : Nat) (s : List Nat) (P I B : Int) (W : World) (hw : ∀ x ∈ s, x < 18446744073709551616) (hr : Rd W (.slice A 8 c) 8 (u64s s)) (hG : MayG P I B) (h8 : s.length = 8) (ho : opens s = false) :
    Calls Tryd.prog 18 #[.slice A 8 c, gv P I B] W (RDecI W s P I B) := by
  have HR := Lib.hid hr
  have HT0 := Lib.hid (ThreeB.new P I B W)
  have HC := Lib.hid (fun W => refMay_yes P I B hG W)
  have HO := Lib.hid (fun w hr => refOpen_no (.slice A 8 c) s 8 h8 ho w hr hw (by decide))
  have HD := Lib.hid (show decF s P I B = some (7, 7) by unfold decF; rw [if_neg (fun h => h hG), if_neg (fun h => h h8), if_pos ho])
  unfold gv at HC ⊢
  unfold zcells at HT0
  clear hG h8 hr hw ho
  go_enter Tryd.func18, Tryd.ntmps18
  go_wp2_with fail
  refine (HC.out _).mono ?_
  rintro e w1 ⟨rfl, hb1⟩
  have HT1 := Lib.hid (HT0.out.below hb1)
  clear hb1
  go_wp2_with fail
  refine (HO.out _ (HR.out.below HT1.out.bel)).mono ?_
  rintro e w2 ⟨rfl, hb2⟩
  have ht2 := HT1.out.below hb2
  have HT2 := Lib.hid ht2
  obtain ⟨z0, z1, z2, z3, z4, z5, z6, z7, z8, z9, z10, z11, z12⟩ := blk13 ht2.rec_
  obtain ⟨f0, f1, f2, f3, f4, f5, f6, f7, f8, f9, f10, f11, f12⟩ := frz13 ht2.rec_
  obtain ⟨k0, k1, k2, k3⟩ := blk2 ht2.flt
  clear hb2 ht2
  go_wp2
  refine bodyPost_ret (v := .tuple #[.agg #[.int .u8 0, .int .i64 0, .int .u32 0, .int .i64 0, .int .i64 0, .int .i64 0, .int .i64 0, .int .i64 0, .int .i64 0, .int .i64 0, .int .i64 0, .int .i64 0, .int .i64 0], .agg #[.int .i64 7, .int .i64 7]]) (by unfold results; go_simp) rfl (.inr ⟨_, _, HD.out, by rw [iv_zero], ?_⟩)
  repeat (refine Below.setCell ?_ (by dsimp only; omega) _)
  exact HT2.out.bel
/-- the loop over the words: where it stands -/
structure RLoop (P I B : Int) (W wr : World) (ok : Nat → Bool) (j : Nat) : Prop where
  box : ThreeB P I B W wr
  all : ∀ q, q < j → ok q = true
set_option maxRecDepth 100000 in
set_option maxHeartbeats 16000000 in
theorem rdec_words (b o c : Nat) (hc8 : 8 ≤ c) (hcm : c ≤ 9223372036854775807) (s0 s1 s2 s3 s4 s5 s6 s7 : Nat) (P : Int) (I B : Nat) (W : World) (hw : ∀ x ∈ [s0, s1, s2, s3, s4, s5, s6, s7], x < 18446744073709551616)
    (hr : Rd W (.slice (some ⟨b, o, none⟩) 8 c) 8 (u64s [s0, s1, s2, s3, s4, s5, s6, s7])) (hG : MayG P I B) (ho : opens [s0, s1, s2, s3, s4, s5, s6, s7] = true) :
    Calls Tryd.prog 18 #[.slice (some ⟨b, o, none⟩) 8 c, gv P (I : Nat) (B : Nat)] W (RDecI W [s0, s1, s2, s3, s4, s5, s6, s7] P (I : Nat) (B : Nat)) := by
  have HR := Lib.hid hr
  have HW := Lib.hid hw
  have HT0 := Lib.hid (ThreeB.new P I B W)
  have HC := Lib.hid (fun W => refMay_yes P I B hG W)
  have HO := Lib.hid (fun w hr => refOpen_ok (.slice (some ⟨b, o, none⟩) 8 c) [s0, s1, s2, s3, s4, s5, s6, s7] 8 rfl ho w hr hw (by decide))
  have hB16 : B < 65536 := by unfold MayG at hG; omega
  have HD0 := Lib.hid (show decF [s0, s1, s2, s3, s4, s5, s6, s7] P I B = if 0 ≤ wrongAt [s0, s1, s2, s3, s4, s5, s6] (s0 % 256) I B then some (wrongAt [s0, s1, s2, s3, s4, s5, s6] (s0 % 256) I B, 7) else none by
    unfold decF; rw [if_neg (fun h => h hG), if_neg (fun h => h rfl), if_neg (by rw [ho]; decide), Int.toNat_natCast, Int.toNat_natCast]; rfl)
  have h0w : s0 < 18446744073709551616 := hw s0 (List.mem_cons_self ..)
  have HAt := Lib.hid (fun j hj h hb => wrong_at (t := [s0, s1, s2, s3, s4, s5, s6]) (k := s0 % 256) (I := I) (B := B) (j := j) hj h hb)
  have HNo := Lib.hid (fun h => wrong_none (t := [s0, s1, s2, s3, s4, s5, s6]) (k := s0 % 256) (I := I) (B := B) h)
  have HF := Lib.hid (show ∀ p, p < 7 → (p = 0 ∨ s0 % 256 ≤ 3) → ∀ w : World, Rd w (.slice (some ⟨b, o, none⟩) 8 c) 8 (u64s [s0, s1, s2, s3, s4, s5, s6, s7]) → Calls Tryd.prog 33 #[.slice (some ⟨b, o, none⟩) 8 c, .int .i64 (p : Nat), .int .u8 ((s0 : Int) % 256), .agg #[.int .i64 P, .int .i64 (I : Nat), .int .i64 (B : Nat)]] w fun e w' => e = .returned (.bool (wordOK p (s0 % 256) (List.getD [s0, s1, s2, s3, s4, s5, s6] p 0) I B)) ∧ Below w.heap.size w w' from fun p hp hpk w hrd => by
    obtain ⟨e0, e1, e2, e3, e4, e5, e6, e7⟩ := cells8 hrd
    have := fits_any b o 8 c p (by omega) hp (List.getD [s0, s1, s2, s3, s4, s5, s6] p 0) (by
      rcases (show p = 0 ∨ p = 1 ∨ p = 2 ∨ p = 3 ∨ p = 4 ∨ p = 5 ∨ p = 6 by omega) with rfl | rfl | rfl | rfl | rfl | rfl | rfl <;> exact HW.out _ (by simp [List.getD])) (s0 % 256) (Nat.mod_lt _ (by decide)) hpk P I B hB16 w (by
      rcases (show p = 0 ∨ p = 1 ∨ p = 2 ∨ p = 3 ∨ p = 4 ∨ p = 5 ∨ p = 6 by omega) with rfl | rfl | rfl | rfl | rfl | rfl | rfl <;> assumption)
    exact this)
  have HK3 := Lib.hid (show wordOK 0 (s0 % 256) (List.getD [s0, s1, s2, s3, s4, s5, s6] 0 0) I B = true → s0 % 256 ≤ 3 from fun h => by
    unfold wordOK firstOK at h
    rw [if_pos rfl] at h
    by_cases c0 : s0 % 256 = 0
    · omega
    rw [if_neg c0] at h
    by_cases c2 : s0 % 256 = 2
    · omega
    rw [if_neg c2] at h
    by_cases c13 : s0 % 256 = 1 ∨ s0 % 256 = 3
    · omega
    rw [if_neg c13] at h
    cases h)
  have HRc := Lib.hid (fun hneg q h1 h2 => Nat.lt_of_le_of_lt (wordOK_le (p := q) (w := List.getD [s0, s1, s2, s3, s4, s5, s6] q 0) h2 (wrong_neg (k := s0 % 256) (I := I) (B := B) hneg q h1)) (show 4611686018427387904 < 9223372036854775808 by decide))
  generalize hwr : wrongAt [s0, s1, s2, s3, s4, s5, s6] (s0 % 256) I B = wz at *
  obtain ⟨ok, hok⟩ : ∃ ok : Nat → Bool, ∀ q, wordOK q (s0 % 256) (List.getD [s0, s1, s2, s3, s4, s5, s6] q 0) I B = ok q := ⟨_, fun q => rfl⟩
  have HF2 := Lib.hid (show ∀ p, p < 7 → (p = 0 ∨ ok 0 = true) → ∀ w : World, Rd w (.slice (some ⟨b, o, none⟩) 8 c) 8 (u64s [s0, s1, s2, s3, s4, s5, s6, s7]) → Calls Tryd.prog 33 #[.slice (some ⟨b, o, none⟩) 8 c, .int .i64 (p : Nat), .int .u8 ((s0 : Int) % 256), .agg #[.int .i64 P, .int .i64 (I : Nat), .int .i64 (B : Nat)]] w fun e w' => e = .returned (.bool (ok p)) ∧ Below w.heap.size w w' from fun p hp hpk w hrd => by
    rw [← hok p]
    exact HF.out p hp (hpk.imp id (fun h => HK3.out (by rw [hok]; exact h))) w hrd)
  have HA2 := Lib.hid (show ∀ j, j < 7 → (∀ q, q < j → ok q = true) → ok j = false → wz = (j : Int) from fun j hj h hb => HAt.out j hj (fun q hq => by rw [hok]; exact h q hq) (by rw [hok]; exact hb))
  have HN2 := Lib.hid (show (∀ q, q < 7 → ok q = true) → wz = -1 from fun h => HNo.out (fun q hq => by rw [hok]; exact h q hq))
  unfold gv at HC ⊢
  unfold zcells at HT0
  clear hG hr hw ho HF HAt HNo HK3 hok hwr
  go_enter Tryd.func18, Tryd.ntmps18
  go_wp2_with fail
  refine (HC.out _).mono ?_
  rintro e w1 ⟨rfl, hb1⟩
  have HT1 := Lib.hid (HT0.out.below hb1)
  clear hb1
  go_wp2_with fail
  refine (HO.out _ (HR.out.below HT1.out.bel)).mono ?_
  rintro e w2 ⟨A2, k2, c2, rfl, hb2⟩
  have HT2 := Lib.hid (HT1.out.below hb2)
  obtain ⟨e0, e1, e2, e3, e4, e5, e6, e7⟩ := cells8 (HR.out.below HT2.out.bel)
  clear hb2
  go_wp2
  clear e0 e1 e2 e3 e4 e5 e6 e7
  go_loopw [9] (fun i wr => ∃ j : Nat, j ≤ 7 ∧ i = .int .i64 j ∧ RLoop P I B W wr ok j) (fun i _ => 7 - (intOf i).toNat)
  case atStart => exact ⟨0, by omega, rfl, ⟨HT2.out, fun q h => by omega⟩⟩
  case round =>
    obtain ⟨j, hj, rfl, hl⟩ := hrel
    have HL := Lib.hid hl
    clear hl
    by_cases hlt : j < 7
    · have hlt' : (j : Int) < 7 := by omega
      obtain ⟨g0, g1, g2, _, _, _⟩ := blk3 HL.out.box.geo
      go_wp2_with fail
      refine (HF2.out j hlt (by rcases Nat.eq_zero_or_pos j with h | h; exact .inl h; exact .inr (HL.out.all 0 h)) _ (HR.out.below HL.out.box.bel)).mono ?_
      rintro e w3 ⟨rfl, hb3⟩
      have HT3 := Lib.hid (HL.out.box.below hb3)
      clear hb3 g0 g1 g2
      cases hokj : ok j with
      | false =>
        have He := Lib.hid (HA2.out j hlt HL.out.all hokj)
        have HD := Lib.hid (HD0.out.trans (if_pos (by rw [He.out]; omega)))
        clear hokj
        obtain ⟨z0, z1, z2, z3, z4, z5, z6, z7, z8, z9, z10, z11, z12⟩ := blk13 HT3.out.rec_
        obtain ⟨f0, f1, f2, f3, f4, f5, f6, f7, f8, f9, f10, f11, f12⟩ := frz13 HT3.out.rec_
        obtain ⟨k0, k1, k2, k3⟩ := blk2 HT3.out.flt
        go_wp2
        refine bodyPost_ret (v := .tuple #[.agg #[.int .u8 0, .int .i64 0, .int .u32 0, .int .i64 0, .int .i64 0, .int .i64 0, .int .i64 0, .int .i64 0, .int .i64 0, .int .i64 0, .int .i64 0, .int .i64 0, .int .i64 0], .agg #[.int .i64 (j : Nat), .int .i64 7]]) (by unfold results; go_simp) rfl (.inr ⟨_, _, HD.out, by rw [iv_zero, He.out], ?_⟩)
        repeat (refine Below.setCell ?_ (by dsimp only; omega) _)
        exact HT3.out.bel
      | true =>
        have Hy := Lib.hid (show ∀ q, q < j + 1 → ok q = true from fun q hq => by
          rcases Nat.lt_or_ge q j with h3 | h3
          · exact HL.out.all q h3
          · obtain rfl : q = j := by omega
            exact hokj)
        clear hokj
        go_wp2
        go_roundw
        case rel => exact ⟨j + 1, by omega, by go_num, ⟨HT3.out, Hy.out⟩⟩
        case measure => simp [intOf]; omega
    · obtain rfl : j = 7 := by omega
      have He := Lib.hid (HN2.out HL.out.all)
      have HD := Lib.hid (HD0.out.trans (if_neg (by rw [He.out]; decide)))
      have HRk := Lib.hid (HRc.out (by rw [He.out]; decide))
      obtain ⟨e0, e1, e2, e3, e4, e5, e6, e7⟩ := cells8 (HR.out.below HL.out.box.bel)
      have b1 : s1 < 9223372036854775808 := HRk.out 1 (by decide) (by decide)
      have b2 : s2 < 9223372036854775808 := HRk.out 2 (by decide) (by decide)
      have b3 : s3 < 9223372036854775808 := HRk.out 3 (by decide) (by decide)
      have b4 : s4 < 9223372036854775808 := HRk.out 4 (by decide) (by decide)
      have b5 : s5 < 9223372036854775808 := HRk.out 5 (by decide) (by decide)
      have b6 : s6 < 9223372036854775808 := HRk.out 6 (by decide) (by decide)
      have v1 : IntKind.i64.wrap (s1 : Int) = (s1 : Int) := by rw [IntKind.wrap_i64]; omega
      have v2 : IntKind.i64.wrap (s2 : Int) = (s2 : Int) := by rw [IntKind.wrap_i64]; omega
      have v3 : IntKind.i64.wrap (s3 : Int) = (s3 : Int) := by rw [IntKind.wrap_i64]; omega
      have v4 : IntKind.i64.wrap (s4 : Int) = (s4 : Int) := by rw [IntKind.wrap_i64]; omega
      have v5 : IntKind.i64.wrap (s5 : Int) = (s5 : Int) := by rw [IntKind.wrap_i64]; omega
      have v6 : IntKind.i64.wrap (s6 : Int) = (s6 : Int) := by rw [IntKind.wrap_i64]; omega
      have hlk : s0 / 256 % 256 < 256 := Nat.mod_lt _ (by decide)
      have vl : IntKind.i64.wrap (((s0 : Int) / 256).tmod 256) = ((s0 / 256 % 256 : Nat) : Int) := by
        rw [show ((s0 : Int) / 256).tmod 256 = ((s0 / 256 % 256 : Nat) : Int) by rw [Int.tmod_eq_emod_of_nonneg (by omega)]; omega, IntKind.wrap_i64]; omega
      have hgk : s0 / 4294967296 < 4294967296 := by omega
      have vg : IntKind.u32.wrap ((s0 : Int) / 4294967296) = ((s0 / 4294967296 : Nat) : Int) := by rw [IntKind.wrap_u32]; omega
      have HRec := Lib.hid (show iv (recOf [s0, s1, s2, s3, s4, s5, s6]) = .agg #[.int .u8 ((s0 % 256 : Nat) : Int), .int .i64 ((s0 / 256 % 256 : Nat) : Int), .int .u32 ((s0 / 4294967296 : Nat) : Int), .int .i64 (s1 : Nat), .int .i64 (s2 : Nat), .int .i64 (if decide (s0 % 256 = 2) then 0 else (s3 : Nat)), .int .i64 (if decide (s0 % 256 = 2) then ((s3 % 256 : Nat) : Int) else 0), .int .i64 (if decide (s0 % 256 = 2) then ((s3 / 256 % 256 : Nat) : Int) else 0), .int .i64 (if decide (s0 % 256 = 2) then ((s3 / 65536 % 256 : Nat) : Int) else 0), .int .i64 (if decide (s0 % 256 = 2) then ((s3 / 16777216 % 256 : Nat) : Int) else 0), .int .i64 (s4 : Nat), .int .i64 (s5 : Nat), .int .i64 (s6 : Nat)] from rfl)
      generalize s0 / 256 % 256 = lk at *
      generalize s0 / 4294967296 = gk at *
      go_wp2
      clear HF2 HA2 HN2 HC HO HRc HD0 HT0 HT1 HT2 He HRk
      have hbw := World.block_lt_of_cell? wr _ e0
      dsimp only at hbw
      have n0 := World.new_ne wr _ e0
      have n1 := World.new_ne wr _ e1
      have n2 := World.new_ne wr _ e2
      have n4 := World.new_ne wr _ e4
      have n5 := World.new_ne wr _ e5
      have n6 := World.new_ne wr _ e6
      go_region_held3 (fun w' => w'.cell? ⟨b, o, none⟩ = some (.int .u64 (s0 : Nat)) ∧ w'.cell? ⟨b, o + 1, none⟩ = some (.int .u64 (s1 : Nat)) ∧ w'.cell? ⟨b, o + 2, none⟩ = some (.int .u64 (s2 : Nat)) ∧ w'.cell? ⟨b, o + 4, none⟩ = some (.int .u64 (s4 : Nat)) ∧ w'.cell? ⟨b, o + 5, none⟩ = some (.int .u64 (s5 : Nat)) ∧ w'.cell? ⟨b, o + 6, none⟩ = some (.int .u64 (s6 : Nat)))
        (go_keep)
        (fail)
      clear n0 n1 n2 n4 n5 n6 e0 e1 e2 e3 e4 e5 e6 e7 v1 v2 v4 v5 v6 vl vg
      have HT5 := Lib.hid (HL.out.box.below ((Below.refl wr.heap.size wr).alloc (Nat.le_refl _) (.cells #[.int .u8 ((s0 : Int) % 256), .int .i64 (lk : Nat), .int .u32 (gk : Nat), .int .i64 (s1 : Nat), .int .i64 (s2 : Nat), .int .i64 0, .int .i64 0, .int .i64 0, .int .i64 0, .int .i64 0, .int .i64 (s4 : Nat), .int .i64 (s5 : Nat), .int .i64 (s6 : Nat)] 25)).drew)
      have hX5 : ((wr.alloc (.cells #[.int .u8 ((s0 : Int) % 256), .int .i64 (lk : Nat), .int .u32 (gk : Nat), .int .i64 (s1 : Nat), .int .i64 (s2 : Nat), .int .i64 0, .int .i64 0, .int .i64 0, .int .i64 0, .int .i64 0, .int .i64 (s4 : Nat), .int .i64 (s5 : Nat), .int .i64 (s6 : Nat)] 25)).drew).heap[wr.heap.size]? = some (.cells #[.int .u8 ((s0 : Int) % 256), .int .i64 (lk : Nat), .int .u32 (gk : Nat), .int .i64 (s1 : Nat), .int .i64 (s2 : Nat), .int .i64 0, .int .i64 0, .int .i64 0, .int .i64 0, .int .i64 0, .int .i64 (s4 : Nat), .int .i64 (s5 : Nat), .int .i64 (s6 : Nat)] 25 (0, 0)) := heap_alloc_new wr _
      have hne1 : W.heap.size + 1 < wr.heap.size := lt_of_block HL.out.box.rec_
      have hne2 : W.heap.size + 2 < wr.heap.size := lt_of_block HL.out.box.flt
      generalize (wr.alloc (.cells #[.int .u8 ((s0 : Int) % 256), .int .i64 (lk : Nat), .int .u32 (gk : Nat), .int .i64 (s1 : Nat), .int .i64 (s2 : Nat), .int .i64 0, .int .i64 0, .int .i64 0, .int .i64 0, .int .i64 0, .int .i64 (s4 : Nat), .int .i64 (s5 : Nat), .int .i64 (s6 : Nat)] 25)).drew = w5 at *
      generalize wr.heap.size = H at *
      have j1 : ¬ W.heap.size + 1 = H := by omega
      have j2 : ¬ H = W.heap.size + 1 := by omega
      have j3 : ¬ W.heap.size + 1 + 1 = H := by omega
      have j4 : ¬ H = W.heap.size + 1 + 1 := by omega
      have j5 : ¬ b = H := by omega
      have j6 : ¬ H = b := by omega
      obtain ⟨e0, e1, e2, e3, e4, e5, e6, e7⟩ := cells8 (HR.out.below HT5.out.bel)
      obtain ⟨x0, x1, x2, x3, x4, x5, x6, x7, x8, x9, x10, x11, x12⟩ := blk13 hX5
      obtain ⟨y0, y1, y2, y3, y4, y5, y6, y7, y8, y9, y10, y11, y12⟩ := frz13 hX5
      clear HL hX5 hbw e0 e1 e2 e4 e5 e6 e7
      obtain ⟨z0, z1, z2, z3, z4, z5, z6, z7, z8, z9, z10, z11, z12⟩ := blk13 HT5.out.rec_
      obtain ⟨f0, f1, f2, f3, f4, f5, f6, f7, f8, f9, f10, f11, f12⟩ := frz13 HT5.out.rec_
      obtain ⟨k0, k1, k2, k3⟩ := blk2 HT5.out.flt
      by_cases hk : s0 % 256 = 2
      · have q2 : ((s0 : Int) % 256 != 2) = false := by simp; omega
        rw [decide_eq_true hk] at HRec
        clear hk
        have l0 : s3 % 256 < 256 := Nat.mod_lt _ (by decide)
        have l1 : s3 / 256 % 256 < 256 := Nat.mod_lt _ (by decide)
        have l2 : s3 / 65536 % 256 < 256 := Nat.mod_lt _ (by decide)
        have l3 : s3 / 16777216 % 256 < 256 := Nat.mod_lt _ (by decide)
        have m0 : (s3 : Int) % 256 = ((s3 % 256 : Nat) : Int) := by omega
        have m1 : (s3 : Int) / 256 % 256 = ((s3 / 256 % 256 : Nat) : Int) := by omega
        have m2 : (s3 : Int) / 65536 % 256 = ((s3 / 65536 % 256 : Nat) : Int) := by omega
        have m3 : (s3 : Int) / 16777216 % 256 = ((s3 / 16777216 % 256 : Nat) : Int) := by omega
        generalize s3 % 256 = t0 at *
        generalize s3 / 256 % 256 = t1 at *
        generalize s3 / 65536 % 256 = t2 at *
        generalize s3 / 16777216 % 256 = t3 at *
        go_wp2
        refine wp_loop_rounds 5 ?_
        rw [rounds_succ]
        go_wp2
        rw [rounds_succ]
        go_wp2
        rw [rounds_succ]
        go_wp2
        rw [rounds_succ]
        go_wp2
        rw [rounds_succ]
        go_wp2
        refine bodyPost_ret (v := .tuple #[.agg #[.int .u8 ((s0 : Int) % 256), .int .i64 (lk : Nat), .int .u32 (gk : Nat), .int .i64 (s1 : Nat), .int .i64 (s2 : Nat), .int .i64 0, .int .i64 (t0 : Nat), .int .i64 (t1 : Nat), .int .i64 (t2 : Nat), .int .i64 (t3 : Nat), .int .i64 (s4 : Nat), .int .i64 (s5 : Nat), .int .i64 (s6 : Nat)], .agg #[.int .i64 0, .int .i64 0]]) (by unfold results; go_simp) rfl (.inl ⟨HD.out, ?_, ?_⟩)
        · rw [show List.take 7 [s0, s1, s2, s3, s4, s5, s6, s7] = [s0, s1, s2, s3, s4, s5, s6] from rfl, HRec.out]; rfl
        · repeat (refine Below.setCell ?_ (by dsimp only; omega) _)
          exact HT5.out.bel
      · have q2 : ((s0 : Int) % 256 != 2) = true := by simp; omega
        rw [decide_eq_false hk] at HRec
        clear hk
        go_wp2
        refine bodyPost_ret (v := .tuple #[.agg #[.int .u8 ((s0 : Int) % 256), .int .i64 (lk : Nat), .int .u32 (gk : Nat), .int .i64 (s1 : Nat), .int .i64 (s2 : Nat), .int .i64 (s3 : Nat), .int .i64 0, .int .i64 0, .int .i64 0, .int .i64 0, .int .i64 (s4 : Nat), .int .i64 (s5 : Nat), .int .i64 (s6 : Nat)], .agg #[.int .i64 0, .int .i64 0]]) (by unfold results; go_simp) rfl (.inl ⟨HD.out, ?_, ?_⟩)
        · rw [show List.take 7 [s0, s1, s2, s3, s4, s5, s6, s7] = [s0, s1, s2, s3, s4, s5, s6] from rfl, HRec.out]; rfl
        · repeat (refine Below.setCell ?_ (by dsimp only; omega) _)
          exact HT5.out.bel
end
end Go.Proofs.YtnpmepklgakaiaaDoor
