/- parcloseref03: Fence, Crash. Printed by wip/mk_refsettle.py. -/
import Derived.Test.YtdkcghicobakhaaMediaU
namespace Go.Proofs.Ytdkcghicobakhaa
open Go.RowKit
set_option linter.unusedVariables false

theorem own_touch {T : Nat → Prop} {w w' : World} {base : Nat} {e : TypeId} {size n : Nat} {v : Value} {xs : List Value} (h : w.ownsRow base e size v n xs) (ht : Touch T w w') (hb : ∀ b, T b → b < base) : w'.ownsRow base e size v n xs := by
  refine ⟨h.1, ?_⟩
  rcases h.2 with h2 | ⟨g, cap, cur, hv, hg, hh, r⟩
  · exact .inl h2
  · exact .inr ⟨g, cap, cur, hv, hg, (ht.block g (Array.getElem?_eq_some_iff.1 hh).1 (fun h3 => by have := hb g h3; omega)).trans hh, r⟩
theorem Touch.of_grown {w w' : World} {row : Option Nat} (h : w.grownBy w' row) : Touch (fun b => row = some b) w w' := by
  obtain ⟨h1, h2, h3, h4, h5⟩ := h
  exact ⟨h1, h2, h3, h4, fun b hb hn => h5 b hb (fun e => hn e.symm)⟩

set_option maxHeartbeats 8000000 in
theorem refFence_any (w : World) (g : Nat) (S : Nat → Prop) (K : List Nat) (L : List Pd) (h : RDev w g S K L) (m : Nat) (hm : K.length = 8 * m) (hm2 : m ≤ 65536) (hL : L.length ≤ 65536) (hP : ∀ x ∈ L, OkP (8 * m) x) :
    Calls Try.prog 19 #[.pointer (some ⟨g, 0, none⟩)] w fun e w' => e = .returned (.tuple #[]) ∧ RGoes w w' g S (apP K (takes isF 0 L)) (rests isF 0 L) := by
  obtain ⟨i0, hi0, hz0, hz1, hz2⟩ := info_parts infoPd
  have hSl := h.lt
  obtain ⟨kb, wb, vk, vw, hd, hs⟩ := h
  obtain ⟨A, c, rfl⟩ := hd.2.2.form
  have hLc : L.length ≤ c := by
    obtain ⟨_, _, hv, h1, _⟩ := hd.2.2.rd
    injection hv with _ _ e3
    omega
  have HB := Lib.hid hd
  have Hs := Lib.hid hs
  have HP := Lib.hid hP
  have Hm := Lib.hid hm
  have HSl := Lib.hid hSl
  clear hm hd hs hP hSl
  go_enter Try.func19, Try.ntmps19
  go_wp2
  go_loopw [2, 3] (fun rest i wr => ∃ j : Nat, j ≤ L.length ∧ i = .int .i64 j ∧ (∃ A2 c2 r, rest = .slice A2 r c2 ∧ r = (rests isF 0 (L.take j)).length ∧ wr.ownsRow w.heap.size 61 3 (.slice A2 r c2) r (pends (rests isF 0 (L.take j)))) ∧
      RDevB wr g kb wb vk (.slice A L.length c) (apP K (takes isF 0 (L.take j))) L ∧ Touch S w wr) (fun _ i _ => L.length - (intOf i).toNat)
  case atStart => exact ⟨0, by omega, rfl, ⟨none, 0, 0, rfl, rfl, World.ownsRow_nil _ _ _ _⟩, HB.out, Touch.refl _ _⟩
  case round =>
    obtain ⟨j, hj, rfl, ⟨A2, c2, r, rfl, hrl, hown⟩, hd, ht⟩ := hrel
    obtain ⟨c0, c1⟩ := hd.cell
    by_cases hlt : j < L.length
    · obtain ⟨p0, p1, p2⟩ := pends_at L j hlt
      have hrw := hd.2.2.rd
      obtain ⟨b, o, hA, q0⟩ := hrw.at_ p0
      subst hA
      obtain ⟨b3, o3, hB, q1⟩ := hrw.at_ p1
      injection hB with hB
      injection hB with e1 e2
      subst e1; subst e2
      obtain ⟨b3, o3, hB, q2⟩ := hrw.at_ p2
      injection hB with hB
      injection hB with e1 e2
      subst e1; subst e2
      rw [← Nat.add_assoc] at q1 q2
      have htk := takes_take isF L j hlt
      have hre := rests_take isF L j hlt
      have hxo := HP.out _ (List.getElem_mem hlt)
      have hRl := rests_le isF (L.take j) 0
      rw [List.length_take, Nat.min_eq_left (by omega)] at hRl
      have hKl : (apP K (takes isF 0 (L.take j))).length = 8 * m := by rw [apP_length]; exact Hm.out
      generalize takes isF 0 (L.take j) = T at *
      generalize rests isF 0 (L.take j) = R at *
      generalize L[j] = x at *
      obtain ⟨xp, xw, xf⟩ := x
      obtain ⟨hx1, hx2⟩ := hxo
      dsimp only at q0 q1 q2 hx1 hx2
      generalize hK1 : apP K T = K1 at *
      have hj' : (j : Int) < (L.length : Int) := by omega
      have hrl2 : r ≤ 65536 := by omega
      have Hrl := Lib.hid hrl
      have Hd := Lib.hid hd
      have Hown := Lib.hid hown
      have Ht := Lib.hid ht
      have HK1 := Lib.hid hK1
      cases xf with
      | true =>
        rw [show isF j ⟨xp, xw, true⟩ = true from rfl, if_pos rfl] at htk hre
        have Htk := Lib.hid htk
        have Hre := Lib.hid hre
        have hrk := hd.2.1
        obtain ⟨ck, hvk⟩ := hrk.form
        subst hvk
        have ha := hrk.cell (at_word (l := K1) (k := xp) (by rw [hKl]; exact hx1))
        have hfk := hrk.frozen xp
        have HsK := Lib.hid (hd.setK xp xw)
        generalize wd K1 xp = z at *
        rw [hKl] at c0
        have hxp' : (xp : Int) < ((8 * m : Nat) : Int) := by omega
        have hxp2 : (xp : Int) < 8 * (m : Int) := by omega
        clear hrk htk hre hd hown ht hK1 hrw hrl hKl p0 p1 p2
        go_wp2
        go_still_tail 21, (by kernel_rfl)
        go_wp2
        go_roundw
        case rel =>
          have hkS : S kb := (Hs.out kb).2 (.inr (.inl rfl))
          have hset : Touch S wr (wr.setCell ⟨kb, xp, none⟩ (.int .u64 (xw : Nat))) := (Touch.refl S wr).setCell ⟨kb, xp, none⟩ (.inl hkS) _
          refine ⟨j + 1, by omega, by go_num, ⟨A2, c2, r, rfl, ?_, ?_⟩, ?_, (Ht.out.setCell ⟨kb, xp, none⟩ (.inl hkS) _).drew⟩
          · rw [Hre.out, List.append_nil]; exact Hrl.out
          · rw [Hre.out, List.append_nil]
            exact own_touch Hown.out hset.drew HSl.out
          · rw [Htk.out, apP_snoc, HK1.out]
            exact HsK.out
        case measure => simp [intOf]; omega
      | false =>
        rw [show isF j ⟨xp, xw, false⟩ = false from rfl, if_neg (by decide)] at htk hre
        have Htk := Lib.hid htk
        have Hre := Lib.hid hre
        have HRn := Lib.hid (Rd.newAt wr wr.heap.size rfl (pend ⟨xp, xw, false⟩) 61 (by simp [pend]) 1 (by omega))
        clear htk hre hd hown ht hK1 hrw hrl p0 p1 p2
        have hsz := Ht.out.size
        go_wp2_with (at_builtin; refine wpList_append_rd rfl (.tmp 42) (.tmp 50) _ rfl w.heap.size 61 i0 _ 3 24 Try.underlying48 hi0 hz0 hz1 hz2 rfl (by decide) (.slice A2 r c2) r (pends R) rfl (own_below Hown.out ((Below.refl _ _).alloc (Nat.le_refl _) _)) _ 1 (pend ⟨xp, xw, false⟩) rfl HRn.out rfl (by rw [← pends_one]; exact pends_oneCell _) (by unfold maxLen; omega) (by omega) (by simp; omega) ?_; intro A3 c3 w3 hown3 hg3; have Hown3 := Lib.hid hown3; have Hg3 := Lib.hid hg3; clear hown3 hg3)
        go_roundw
        case rel =>
          have hbA : Below wr.heap.size wr (wr.alloc (.cells #[.int .i64 (xp : Nat), .int .u64 (xw : Nat), .bool false] 61)) := (Below.refl _ _).alloc (Nat.le_refl _) _
          have hd4 := Hd.out.below hbA
          have hown4 := own_below Hown.out hbA
          have htg := Touch.of_grown Hg3.out
          have hge : ∀ b', Value.ownBlock (.slice A2 r c2) = some b' → w.heap.size ≤ b' := fun b' hb' => (hown4.lt b' hb').1
          refine ⟨j + 1, by omega, by go_num, ⟨A3, c3, r + 1, rfl, ?_, ?_⟩, ?_, ?_⟩
          · rw [Hre.out, List.length_append]; have := Hrl.out; simp; omega
          · rw [Hre.out, pends_append, pends_one]; exact Hown3.out
          · rw [Htk.out, List.append_nil, HK1.out]
            refine hd4.touch htg (fun b' hb' hf => ?_)
            have h1 := hge b' hb'
            have h2 := HSl.out b' ((Hs.out b').2 hf)
            omega
          · exact (Ht.out.alloc _).trans htg (fun b' hb' => .inr (hge b' hb'))
        case measure => simp [intOf]; omega
    · obtain rfl : j = L.length := by omega
      rw [List.take_length] at hd hown hrl
      have hf1 := hd.frozen 1
      have Hd := Lib.hid hd
      have Hown := Lib.hid hown
      have Hrl := Lib.hid hrl
      have Ht := Lib.hid ht
      clear hd hown ht hrl
      go_wp2
      go_end0
      obtain ⟨ob, hob, hwr⟩ := WRow.of_own Hown.out
      rw [Hrl.out] at hwr
      refine ⟨rfl, _, ⟨kb, ob, vk, _, Hd.out.grow (Touch.refl _ _) (by rw [← Hrl.out] at hwr ⊢; exact hwr), fun b => Iff.rfl⟩, Ht.out.setCell ⟨g, 1, none⟩ (.inl ((Hs.out g).2 (.inl rfl))) _, fun b hb => ?_⟩
      rcases hb with hb | hb | hb
      · exact .inl ((Hs.out b).2 (.inl hb))
      · exact .inl ((Hs.out b).2 (.inr (.inl hb)))
      · exact .inr (hob b hb)

set_option maxHeartbeats 8000000 in
theorem refCrash_any (w : World) (g : Nat) (S : Nat → Prop) (K : List Nat) (L : List Pd) (h : RDev w g S K L) (m : Nat) (hm : K.length = 8 * m) (hm2 : m ≤ 65536) (hL : L.length ≤ 65536) (hP : ∀ x ∈ L, OkP (8 * m) x)
    (v : Value) (keep : List Bool) (hkr : Rd w v keep.length (bools keep)) (hkS : ∀ b o c, v = .slice (some ⟨b, o, none⟩) keep.length c → ¬ S b) (hk : keep.length ≤ 65536) :
    Calls Try.prog 21 #[.pointer (some ⟨g, 0, none⟩), v] w fun e w' => e = .returned (.tuple #[]) ∧ RGoes w w' g S (apP K (takes (isK keep) 0 L)) [] := by
  obtain ⟨kb, wb, vk, vw, hd, hs⟩ := h
  obtain ⟨A, c, rfl⟩ := hd.2.2.form
  obtain ⟨Ak, cqq, rfl, hkc, hkm⟩ : ∃ A c, v = .slice A keep.length c ∧ keep.length ≤ c ∧ c ≤ maxLen := by
    obtain ⟨A, c, hv, h1, h2, _⟩ := hkr
    exact ⟨A, c, hv, h1, h2⟩
  have hLc : L.length ≤ c := by
    obtain ⟨_, _, hv, h1, _⟩ := hd.2.2.rd
    injection hv with _ _ e3
    omega
  have HB := Lib.hid hd
  have Hs := Lib.hid hs
  have HP := Lib.hid hP
  have Hm := Lib.hid hm
  have HKr := Lib.hid (fun (W : World) (ht : Touch S w W) => hkr.touch ht hkS)
  clear hm hd hs hP hkr hkS
  go_enter Try.func21, Try.ntmps21
  go_wp2
  go_loopw [4] (fun i wr => ∃ j : Nat, j ≤ L.length ∧ i = .int .i64 j ∧ RDevB wr g kb wb vk (.slice A L.length c) (apP K (takes (isK keep) 0 (L.take j))) L ∧ Touch S w wr) (fun i _ => L.length - (intOf i).toNat)
  case atStart => exact ⟨0, by omega, rfl, HB.out, Touch.refl _ _⟩
  case round =>
    obtain ⟨j, hj, rfl, hd, ht⟩ := hrel
    obtain ⟨c0, c1⟩ := hd.cell
    by_cases hlt : j < L.length
    · obtain ⟨p0, p1, p2⟩ := pends_at L j hlt
      have hrw := hd.2.2.rd
      obtain ⟨b, o, hA, q0⟩ := hrw.at_ p0
      subst hA
      obtain ⟨b3, o3, hB, q1⟩ := hrw.at_ p1
      injection hB with hB
      injection hB with e1 e2
      subst e1; subst e2
      rw [← Nat.add_assoc] at q1
      have htk := takes_take (isK keep) L j hlt
      have hxo := HP.out _ (List.getElem_mem hlt)
      have hKl : (apP K (takes (isK keep) 0 (L.take j))).length = 8 * m := by rw [apP_length]; exact Hm.out
      generalize takes (isK keep) 0 (L.take j) = T at *
      generalize L[j] = x at *
      obtain ⟨xp, xw, xf⟩ := x
      obtain ⟨hx1, hx2⟩ := hxo
      dsimp only at q0 q1 hx1 hx2
      generalize hK1 : apP K T = K1 at *
      have hj' : (j : Int) < (L.length : Int) := by omega
      have Hd := Lib.hid hd
      have Ht := Lib.hid ht
      have HK1 := Lib.hid hK1
      have hcase : (isK keep j ⟨xp, xw, xf⟩ = true ∧ j < keep.length ∧ (bools keep)[j]? = some (.bool true)) ∨ (isK keep j ⟨xp, xw, xf⟩ = false ∧ j < keep.length ∧ (bools keep)[j]? = some (.bool false)) ∨ (isK keep j ⟨xp, xw, xf⟩ = false ∧ ¬ j < keep.length) := by
        by_cases hjk : j < keep.length
        · have hb : (bools keep)[j]? = some (.bool keep[j]) := by simp [bools, hjk]
          have hi : isK keep j ⟨xp, xw, xf⟩ = keep[j] := by simp [isK, hjk, List.getD]
          rw [hi, hb]
          cases keep[j] with
          | true => exact .inl ⟨rfl, hjk, rfl⟩
          | false => exact .inr (.inl ⟨rfl, hjk, rfl⟩)
        · exact .inr (.inr ⟨by simp [isK, hjk], hjk⟩)
      rcases hcase with ⟨hi, hjk, hb⟩ | ⟨hi, hjk, hb⟩ | ⟨hi, hjk⟩
      · rw [hi, if_pos rfl] at htk
        have Htk := Lib.hid htk
        obtain ⟨bk, ok, hAk, hck⟩ := (HKr.out wr ht).at_ hb
        subst hAk
        have hjk' : (j : Int) < (keep.length : Int) := by omega
        have hrk := hd.2.1
        obtain ⟨ck, hvk⟩ := hrk.form
        subst hvk
        have ha := hrk.cell (at_word (l := K1) (k := xp) (by rw [hKl]; exact hx1))
        have hfk := hrk.frozen xp
        have HsK := Lib.hid (hd.setK xp xw)
        generalize wd K1 xp = z at *
        rw [hKl] at c0
        have hxp' : (xp : Int) < ((8 * m : Nat) : Int) := by omega
        have hxp2 : (xp : Int) < 8 * (m : Int) := by omega
        clear hrk htk hd ht hK1 hrw hKl p0 p1 p2 hi hb
        go_wp2
        go_still_tail 21, (by kernel_rfl)
        go_wp2
        go_roundw
        case rel =>
          have hkS : S kb := (Hs.out kb).2 (.inr (.inl rfl))
          refine ⟨j + 1, by omega, by go_num, ?_, (Ht.out.setCell ⟨kb, xp, none⟩ (.inl hkS) _).drew⟩
          rw [Htk.out, apP_snoc, HK1.out]
          exact HsK.out
        case measure => simp [intOf]; omega
      · rw [hi, if_neg (by decide)] at htk
        have Htk := Lib.hid htk
        obtain ⟨bk, ok, hAk, hck⟩ := (HKr.out wr ht).at_ hb
        subst hAk
        have hjk' : (j : Int) < (keep.length : Int) := by omega
        clear htk hd ht hK1 hrw hKl p0 p1 p2 hi hb
        go_wp2
        go_roundw
        case rel => exact ⟨j + 1, by omega, by go_num, by rw [Htk.out, List.append_nil, HK1.out]; exact Hd.out, Ht.out⟩
        case measure => simp [intOf]; omega
      · rw [hi, if_neg (by decide)] at htk
        have Htk := Lib.hid htk
        have hjk' : (keep.length : Int) ≤ (j : Int) := by omega
        clear htk hd ht hK1 hrw hKl p0 p1 p2 hi
        go_wp2
        go_roundw
        case rel => exact ⟨j + 1, by omega, by go_num, by rw [Htk.out, List.append_nil, HK1.out]; exact Hd.out, Ht.out⟩
        case measure => simp [intOf]; omega
    · obtain rfl : j = L.length := by omega
      rw [List.take_length] at hd
      have hf1 := hd.frozen 1
      have Hd := Lib.hid hd
      have Ht := Lib.hid ht
      clear hd ht
      go_wp2
      go_end0
      refine ⟨rfl, _, ⟨kb, none, vk, _, Hd.out.grow (Touch.refl _ _) (wb' := none) (L' := []) (WRow.nil _ _ _), fun b => Iff.rfl⟩, Ht.out.setCell ⟨g, 1, none⟩ (.inl ((Hs.out g).2 (.inl rfl))) _, fun b hb => ?_⟩
      rcases hb with hb | hb | hb
      · exact .inl ((Hs.out b).2 (.inl hb))
      · exact .inl ((Hs.out b).2 (.inr (.inl hb)))
      · cases hb
end Go.Proofs.Ytdkcghicobakhaa
