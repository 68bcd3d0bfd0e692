/- What the document's device does at a crash: the row of choices may lie where it does, if it reads on. -/
import Derived.Test.YtdkcghicobakhaaMediaV
namespace Go.Proofs.Ytdkcghicobakhaa
open Go.RowKit
set_option linter.unusedVariables false

set_option maxHeartbeats 8000000 in
theorem refCrash_rd (w : World) (g : Nat) (S : Nat → Prop) (K : List Nat) (L : List Pd) (h : RDev w g S K L) (m : Nat) (hm : K.length = 8 * m) (hm2 : m ≤ 65536) (hL : L.length ≤ 65536) (hP : ∀ x ∈ L, OkP (8 * m) x)
    (v : Value) (keep : List Bool) (hkr : Rd w v keep.length (bools keep)) (hkS : ∀ W : World, Touch S w W → Rd W v keep.length (bools keep)) (hk : keep.length ≤ 65536) :
    Calls Try.prog 21 #[.pointer (some ⟨g, 0, none⟩), v] w fun e w' => e = .returned (.tuple #[]) ∧ RGoes w w' g S (apP K (takes (isK keep) 0 L)) [] := by
  obtain ⟨kb, wb, vk, vw, hd, hs⟩ := h
  obtain ⟨A, c, rfl⟩ := hd.2.2.form
  obtain ⟨Ak, cqq, rfl, hkc, hkm⟩ : ∃ A c, v = .slice A keep.length c ∧ keep.length ≤ c ∧ c ≤ maxLen := by
    obtain ⟨A, c, hv, h1, h2, _⟩ := hkr
    exact ⟨A, c, hv, h1, h2⟩
  have hLc : L.length ≤ c := by
    obtain ⟨_, _, hv, h1, _⟩ := hd.2.2.rd
    injection hv with _ _ e3
    omega
  have HB := Lib.hid hd
  have Hs := Lib.hid hs
  have HP := Lib.hid hP
  have Hm := Lib.hid hm
  have HKr := Lib.hid (hkS)
  clear hm hd hs hP hkr hkS
  go_enter Try.func21, Try.ntmps21
  go_wp2
  go_loopw [4] (fun i wr => ∃ j : Nat, j ≤ L.length ∧ i = .int .i64 j ∧ RDevB wr g kb wb vk (.slice A L.length c) (apP K (takes (isK keep) 0 (L.take j))) L ∧ Touch S w wr) (fun i _ => L.length - (intOf i).toNat)
  case atStart => exact ⟨0, by omega, rfl, HB.out, Touch.refl _ _⟩
  case round =>
    obtain ⟨j, hj, rfl, hd, ht⟩ := hrel
    obtain ⟨c0, c1⟩ := hd.cell
    by_cases hlt : j < L.length
    · obtain ⟨p0, p1, p2⟩ := pends_at L j hlt
      have hrw := hd.2.2.rd
      obtain ⟨b, o, hA, q0⟩ := hrw.at_ p0
      subst hA
      obtain ⟨b3, o3, hB, q1⟩ := hrw.at_ p1
      injection hB with hB
      injection hB with e1 e2
      subst e1; subst e2
      rw [← Nat.add_assoc] at q1
      have htk := takes_take (isK keep) L j hlt
      have hxo := HP.out _ (List.getElem_mem hlt)
      have hKl : (apP K (takes (isK keep) 0 (L.take j))).length = 8 * m := by rw [apP_length]; exact Hm.out
      generalize takes (isK keep) 0 (L.take j) = T at *
      generalize L[j] = x at *
      obtain ⟨xp, xw, xf⟩ := x
      obtain ⟨hx1, hx2⟩ := hxo
      dsimp only at q0 q1 hx1 hx2
      generalize hK1 : apP K T = K1 at *
      have hj' : (j : Int) < (L.length : Int) := by omega
      have Hd := Lib.hid hd
      have Ht := Lib.hid ht
      have HK1 := Lib.hid hK1
      have hcase : (isK keep j ⟨xp, xw, xf⟩ = true ∧ j < keep.length ∧ (bools keep)[j]? = some (.bool true)) ∨ (isK keep j ⟨xp, xw, xf⟩ = false ∧ j < keep.length ∧ (bools keep)[j]? = some (.bool false)) ∨ (isK keep j ⟨xp, xw, xf⟩ = false ∧ ¬ j < keep.length) := by
        by_cases hjk : j < keep.length
        · have hb : (bools keep)[j]? = some (.bool keep[j]) := by simp [bools, hjk]
          have hi : isK keep j ⟨xp, xw, xf⟩ = keep[j] := by simp [isK, hjk, List.getD]
          rw [hi, hb]
          cases keep[j] with
          | true => exact .inl ⟨rfl, hjk, rfl⟩
          | false => exact .inr (.inl ⟨rfl, hjk, rfl⟩)
        · exact .inr (.inr ⟨by simp [isK, hjk], hjk⟩)
      rcases hcase with ⟨hi, hjk, hb⟩ | ⟨hi, hjk, hb⟩ | ⟨hi, hjk⟩
      · rw [hi, if_pos rfl] at htk
        have Htk := Lib.hid htk
        obtain ⟨bk, ok, hAk, hck⟩ := (HKr.out wr ht).at_ hb
        subst hAk
        have hjk' : (j : Int) < (keep.length : Int) := by omega
        have hrk := hd.2.1
        obtain ⟨ck, hvk⟩ := hrk.form
        subst hvk
        have ha := hrk.cell (at_word (l := K1) (k := xp) (by rw [hKl]; exact hx1))
        have hfk := hrk.frozen xp
        have HsK := Lib.hid (hd.setK xp xw)
        generalize wd K1 xp = z at *
        rw [hKl] at c0
        have hxp' : (xp : Int) < ((8 * m : Nat) : Int) := by omega
        have hxp2 : (xp : Int) < 8 * (m : Int) := by omega
        clear hrk htk hd ht hK1 hrw hKl p0 p1 p2 hi hb
        go_wp2
        go_still_tail 21, (by kernel_rfl)
        go_wp2
        go_roundw
        case rel =>
          have hkS : S kb := (Hs.out kb).2 (.inr (.inl rfl))
          refine ⟨j + 1, by omega, by go_num, ?_, (Ht.out.setCell ⟨kb, xp, none⟩ (.inl hkS) _).drew⟩
          rw [Htk.out, apP_snoc, HK1.out]
          exact HsK.out
        case measure => simp [intOf]; omega
      · rw [hi, if_neg (by decide)] at htk
        have Htk := Lib.hid htk
        obtain ⟨bk, ok, hAk, hck⟩ := (HKr.out wr ht).at_ hb
        subst hAk
        have hjk' : (j : Int) < (keep.length : Int) := by omega
        clear htk hd ht hK1 hrw hKl p0 p1 p2 hi hb
        go_wp2
        go_roundw
        case rel => exact ⟨j + 1, by omega, by go_num, by rw [Htk.out, List.append_nil, HK1.out]; exact Hd.out, Ht.out⟩
        case measure => simp [intOf]; omega
      · rw [hi, if_neg (by decide)] at htk
        have Htk := Lib.hid htk
        have hjk' : (keep.length : Int) ≤ (j : Int) := by omega
        clear htk hd ht hK1 hrw hKl p0 p1 p2 hi
        go_wp2
        go_roundw
        case rel => exact ⟨j + 1, by omega, by go_num, by rw [Htk.out, List.append_nil, HK1.out]; exact Hd.out, Ht.out⟩
        case measure => simp [intOf]; omega
    · obtain rfl : j = L.length := by omega
      rw [List.take_length] at hd
      have hf1 := hd.frozen 1
      have Hd := Lib.hid hd
      have Ht := Lib.hid ht
      clear hd ht
      go_wp2
      go_end0
      refine ⟨rfl, _, ⟨kb, none, vk, _, Hd.out.grow (Touch.refl _ _) (wb' := none) (L' := []) (WRow.nil _ _ _), fun b => Iff.rfl⟩, Ht.out.setCell ⟨g, 1, none⟩ (.inl ((Hs.out g).2 (.inl rfl))) _, fun b hb => ?_⟩
      rcases hb with hb | hb | hb
      · exact .inl ((Hs.out b).2 (.inl hb))
      · exact .inl ((Hs.out b).2 (.inr (.inl hb)))
      · cases hb
end Go.Proofs.Ytdkcghicobakhaa
