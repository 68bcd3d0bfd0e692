/- The law's alive: a store that is fenced, and one that is lost. -/
import Derived.Test.YtdkcghicobakhaaMediaW
namespace Go.Proofs.Ytdkcghicobakhaa
open Go.RowKit
set_option linter.unusedVariables false

/-- a row of a call's own is read behind what turns elder blocks alone -/
theorem own_rd {S : Nat → Prop} {w w' : World} {base : Nat} {e : TypeId} {size n : Nat} {v : Value} {xs : List Value} (h : w.ownsRow base e size v n xs) (ht : Touch S w w') (hb : ∀ b, S b → b < base) : Rd w' v n xs := Rd.of_own (own_touch h ht hb)
def K0 : List Nat := List.replicate (8 * 1) 0
def K1 : List Nat := K0.set 3 5
theorem al_flush : ([] ++ [⟨3, 5, false⟩] : List Pd).map (flushes 0) = [⟨3, 5, true⟩] := by decide
theorem al_take : apP K0 (takes isF 0 ([⟨3, 5, true⟩] ++ [⟨3, 6, false⟩])) = K1 := by decide
theorem al_rest : rests isF 0 ([⟨3, 5, true⟩] ++ [⟨3, 6, false⟩]) = [⟨3, 6, false⟩] := by decide
theorem al_now : wd (apP K1 [⟨3, 6, false⟩]) 3 = 6 := by decide
theorem al_crash : apP K1 (takes (isK []) 0 [⟨3, 6, false⟩]) = K1 := by decide
theorem al_last : wd (apP K1 []) 3 = 5 := by decide

set_option maxHeartbeats 4000000 in
theorem alive_any (w : World) : Calls Try.prog 9 #[] w fun e w' => e = .returned (.bool true) ∧ Below w.heap.size w w' := by
  have hq := run_eqP
  have hg := guard_eqP
  have HN := Lib.hid (fun W => New_at 1 W (by omega) (by omega))
  have HS := Lib.hid (fun (W : World) g S K L (h : At W g S 1 K L) (hL : L.length ≤ 65536) => Store_at h (by omega) hL 3 5 (by omega) (by omega))
  have HS6 := Lib.hid (fun (W : World) g S K L (h : At W g S 1 K L) (hL : L.length ≤ 65536) => Store_at h (by omega) hL 3 6 (by omega) (by omega))
  have HFl := Lib.hid (fun (W : World) g S K L (h : At W g S 1 K L) (hL : L.length ≤ 65536) => Flush_at h (by omega) hL 0 (by omega))
  have HFe := Lib.hid (fun (W : World) g S K L (h : At W g S 1 K L) (hL : L.length ≤ 65536) => Fence_at h (by omega) hL)
  have HP := Lib.hid (fun (W : World) g S K L (h : At W g S 1 K L) (hL : L.length ≤ 65536) => Pending_at h hL)
  have HLd := Lib.hid (fun (W : World) g S K L (h : At W g S 1 K L) => Load_at h (by omega) 3 (by omega))
  have HCr := Lib.hid (fun (W : World) g S K L (h : At W g S 1 K L) (hL : L.length ≤ 65536) => Crash_at h (by omega) (by omega) hL (.slice none 0 0) [] (Rd.nil W) (by intro b o c hh; cases hh) (by simp))
  have HLi := Lib.hid (fun (W : World) g S K L (h : At W g S 1 K L) => Lines_at h (by omega))
  go_enter Try.func9, Try.ntmps9
  go_wp2_with fail
  refine (HN.out _).mono ?_
  rintro e w1 ⟨g, rfl, S1, h1, hb1, hs1⟩
  have H1 := Lib.hid (show At w1 g S1 1 K0 [] from h1)
  have B1 := Lib.hid hb1
  have G1 := Lib.hid hs1
  clear h1 hb1 hs1
  go_wp2_with fail
  refine (HS.out _ _ _ _ _ H1.out (by simp)).mono ?_
  rintro e w2 ⟨rfl, S2, h2, ht2, hs2⟩
  have hb2 := ht2.below B1.out.size G1.out
  have H2 := Lib.hid h2
  have B2 := Lib.hid (B1.out.trans hb2)
  have G2 := Lib.hid (show ∀ b, S2 b → w.heap.size ≤ b from fun b hb => (hs2 b hb).elim (G1.out b) (fun h => Nat.le_trans B1.out.size h))
  clear h2 ht2 hs2 hb2
  go_wp2_with fail
  refine (HFl.out _ _ _ _ _ H2.out (by simp)).mono ?_
  rintro e w3 ⟨rfl, S3, h3, ht3, hs3⟩
  rw [al_flush] at h3
  have hb3 := ht3.below B2.out.size G2.out
  have H3 := Lib.hid h3
  have B3 := Lib.hid (B2.out.trans hb3)
  have G3 := Lib.hid (show ∀ b, S3 b → w.heap.size ≤ b from fun b hb => (hs3 b hb).elim (G2.out b) (fun h => Nat.le_trans B2.out.size h))
  clear h3 ht3 hs3 hb3
  go_wp2_with fail
  refine (HS6.out _ _ _ _ _ H3.out (by simp)).mono ?_
  rintro e w4 ⟨rfl, S4, h4, ht4, hs4⟩
  have hb4 := ht4.below B3.out.size G3.out
  have H4 := Lib.hid h4
  have B4 := Lib.hid (B3.out.trans hb4)
  have G4 := Lib.hid (show ∀ b, S4 b → w.heap.size ≤ b from fun b hb => (hs4 b hb).elim (G3.out b) (fun h => Nat.le_trans B3.out.size h))
  clear h4 ht4 hs4 hb4
  go_wp2_with fail
  refine (HFe.out _ _ _ _ _ H4.out (by simp)).mono ?_
  rintro e w5 ⟨rfl, S5, h5, ht5, hs5⟩
  rw [al_take, al_rest] at h5
  have hb5 := ht5.below B4.out.size G4.out
  have H5 := Lib.hid h5
  have B5 := Lib.hid (B4.out.trans hb5)
  have G5 := Lib.hid (show ∀ b, S5 b → w.heap.size ≤ b from fun b hb => (hs5 b hb).elim (G4.out b) (fun h => Nat.le_trans B4.out.size h))
  clear h5 ht5 hs5 hb5
  go_wp2_with fail
  refine (HP.out _ _ _ _ _ H5.out (by simp)).mono ?_
  rintro e w6 ⟨A6, c6, rfl, ho6, hb6⟩
  have H6 := Lib.hid (H5.out.below hb6)
  have B6 := Lib.hid (below_then B5.out hb6)
  have O6 := Lib.hid ho6
  have L6 := Lib.hid H5.out.lt
  clear ho6 hb6
  go_wp2_with fail
  refine (HLd.out _ _ _ _ _ H6.out).mono ?_
  rintro e w' ⟨rfl, rfl⟩
  rw [al_now]
  go_wp2_with fail
  refine (HCr.out _ _ _ _ _ H6.out (by simp)).mono ?_
  rintro e w7 ⟨rfl, S7, h7, ht7, hs7⟩
  rw [al_crash] at h7
  have hb7 := ht7.below B6.out.size G5.out
  have H7 := Lib.hid h7
  have B7 := Lib.hid (B6.out.trans hb7)
  have R7 := own_rd O6.out ht7 L6.out
  obtain ⟨b, o, rfl, q0⟩ := R7.at_ (j := 0) (u := .int .i64 3) rfl
  obtain ⟨b', o', hA, q1⟩ := R7.at_ (j := 1) (u := .int .u64 6) rfl
  injection hA with hA
  injection hA with e1 e2
  subst e1; subst e2
  obtain ⟨b', o', hA, q2⟩ := R7.at_ (j := 2) (u := .bool false) rfl
  injection hA with hA
  injection hA with e1 e2
  subst e1; subst e2
  rw [Nat.add_zero] at q0
  clear h7 ht7 hs7 hb7 R7
  go_wp2_with fail
  refine (HLd.out _ _ _ _ _ H7.out).mono ?_
  rintro e w' ⟨rfl, rfl⟩
  rw [al_last]
  go_wp2_with fail
  refine (HLi.out _ _ _ _ _ H7.out).mono ?_
  rintro e w' ⟨rfl, rfl⟩
  go_wp2
  go_ret
  exact ⟨rfl, B7.out⟩
end Go.Proofs.Ytdkcghicobakhaa
