/- media: Lines, may, Load, Store. -/
import Derived.Test.YtdkcghicobakhaaMediaDev
namespace Go.Proofs.Ytdkcghicobakhaa
open Go.RowKit
set_option linter.unusedVariables false

abbrev DT := 66
/-- the word at a place -/
def wd (l : List Nat) (k : Nat) : Nat := l.getD k 0
theorem at_word {l : List Nat} {k : Nat} (h : k < l.length) : (u64s l)[k]? = some (.int .u64 (wd l k : Nat)) := by
  rw [u64s_at h]
  simp [wd, List.getD, h]

set_option maxHeartbeats 400000 in
theorem may_nil (a b : Int) (w : World) : Calls Try.prog 33 #[.pointer none, .int .i64 a, .int .i64 b] w fun e w' => e = .returned (.int .i64 1) ∧ w = w' := by
  go_enter Try.func33, Try.ntmps33
  go_wp2
  go_ret
  exact ⟨rfl, rfl⟩
set_option maxHeartbeats 400000 in
theorem may_no (p : Addr) (a b : Int) (h : ¬ (0 ≤ a ∧ a < b)) (w : World) : Calls Try.prog 33 #[.pointer (some p), .int .i64 a, .int .i64 b] w fun e w' => e = .returned (.int .i64 2) ∧ w = w' := by
  have hh : a < 0 ∨ (0 ≤ a ∧ b ≤ a) := by omega
  clear h
  rcases hh with h1 | ⟨h1, h2⟩
  all_goals
    go_enter Try.func33, Try.ntmps33
    go_wp2
    go_ret
    exact ⟨rfl, rfl⟩
set_option maxHeartbeats 400000 in
theorem may_yes (p : Addr) (a b : Int) (h : 0 ≤ a ∧ a < b) (w : World) : Calls Try.prog 33 #[.pointer (some p), .int .i64 a, .int .i64 b] w fun e w' => e = .returned (.int .i64 0) ∧ w = w' := by
  obtain ⟨h1, h2⟩ := h
  go_enter Try.func33, Try.ntmps33
  go_wp2
  go_ret
  exact ⟨rfl, rfl⟩
set_option maxHeartbeats 400000 in
theorem Lines_nil (w : World) : Calls Try.prog 12 #[.pointer none] w fun e w' => e = .returned (.int .i64 0) ∧ w = w' := by
  go_enter Try.func12, Try.ntmps12
  go_wp2
  go_ret
  exact ⟨rfl, rfl⟩
set_option maxHeartbeats 400000 in
theorem Lines_any (w : World) (g : Nat) (S : Nat → Prop) (K N : List Nat) (L : List Pd) (h : Dev w DT g S K N L) (m : Nat) (hm : K.length = 8 * m) (hm2 : m ≤ 65536) :
    Calls Try.prog 12 #[.pointer (some ⟨g, 0, none⟩)] w fun e w' => e = .returned (.int .i64 (m : Nat)) ∧ w = w' := by
  obtain ⟨kb, nb, wb, vk, vn, vw, hd, hs⟩ := h
  obtain ⟨c0, c1, c2⟩ := hd.cell
  obtain ⟨hg, hk, hn, hw, hkn, d1, d2⟩ := hd
  obtain ⟨c, rfl⟩ := hk.form
  have hk2 : (K.length : Int) / 8 = (m : Int) := by omega
  have hl : K.length ≤ 524288 := by omega
  clear hg hk hn hw hs hkn d1 d2 hm
  go_enter Try.func12, Try.ntmps12
  go_wp2
  go_ret
  exact ⟨ret_int (by omega), rfl⟩

set_option maxHeartbeats 400000 in
theorem Load_nil (a : Int) (w : World) : Calls Try.prog 22 #[.pointer none, .int .i64 a] w fun e w' => e = .returned (.tuple #[.int .u64 0, .int .i64 1]) ∧ w = w' := by
  go_enter Try.func22, Try.ntmps22
  go_wp2_with fail
  refine (Lines_nil _).mono ?_
  rintro e w' ⟨rfl, rfl⟩
  go_wp2_with fail
  refine (may_nil _ _ _).mono ?_
  rintro e w' ⟨rfl, rfl⟩
  go_wp2
  go_ret2
  exact ⟨rfl, rfl⟩
set_option maxHeartbeats 400000 in
theorem Load_no (w : World) (g : Nat) (S : Nat → Prop) (K N : List Nat) (L : List Pd) (h : Dev w DT g S K N L) (m : Nat) (hm : K.length = 8 * m) (hm2 : m ≤ 65536) (a : Int) (ha : ¬ (0 ≤ a ∧ a < 8 * (m : Int))) :
    Calls Try.prog 22 #[.pointer (some ⟨g, 0, none⟩), .int .i64 a] w fun e w' => e = .returned (.tuple #[.int .u64 0, .int .i64 2]) ∧ w = w' := by
  have HL := Lib.hid (Lines_any w g S K N L h m hm hm2)
  have HM := Lib.hid (may_no ⟨g, 0, none⟩ a (8 * (m : Int)) ha w)
  clear h ha hm
  go_enter Try.func22, Try.ntmps22
  go_wp2_with fail
  refine HL.out.mono ?_
  rintro e w' ⟨rfl, rfl⟩
  go_wp2_with fail
  refine HM.out.mono ?_
  rintro e w' ⟨rfl, rfl⟩
  go_wp2
  go_ret2
  exact ⟨rfl, rfl⟩
set_option maxHeartbeats 400000 in
theorem Load_yes (w : World) (g : Nat) (S : Nat → Prop) (K N : List Nat) (L : List Pd) (h : Dev w DT g S K N L) (m : Nat) (hm : K.length = 8 * m) (hmn : N.length = 8 * m) (hm2 : m ≤ 65536) (a : Nat) (ha : a < 8 * m) :
    Calls Try.prog 22 #[.pointer (some ⟨g, 0, none⟩), .int .i64 a] w fun e w' => e = .returned (.tuple #[.int .u64 (wd N a : Nat), .int .i64 0]) ∧ w = w' := by
  have HL := Lib.hid (Lines_any w g S K N L h m hm hm2)
  have HM := Lib.hid (may_yes ⟨g, 0, none⟩ a (8 * (m : Int)) (by omega) w)
  obtain ⟨kb, nb, wb, vk, vn, vw, hd, hs⟩ := h
  obtain ⟨c0, c1, c2⟩ := hd.cell
  obtain ⟨hg, hk, hn, hw, hkn, d1, d2⟩ := hd
  have hc := hn.cell (at_word (l := N) (k := a) (by omega))
  obtain ⟨c, rfl⟩ := hn.form
  generalize wd N a = x at *
  rw [hmn] at c1
  have ha1 : (a : Int) < ((8 * m : Nat) : Int) := by omega
  clear hg hk hn hw hs hkn d1 d2 hm hmn
  go_enter Try.func22, Try.ntmps22
  go_wp2_with fail
  refine HL.out.mono ?_
  rintro e w' ⟨rfl, rfl⟩
  go_wp2_with fail
  refine HM.out.mono ?_
  rintro e w' ⟨rfl, rfl⟩
  go_wp2
  go_ret2
  exact ⟨rfl, rfl⟩

set_option maxHeartbeats 400000 in
theorem Store_nil (a : Int) (x : Nat) (w : World) : Calls Try.prog 13 #[.pointer none, .int .i64 a, .int .u64 x] w fun e w' => e = .returned (.int .i64 1) ∧ w = w' := by
  go_enter Try.func13, Try.ntmps13
  go_wp2_with fail
  refine (Lines_nil _).mono ?_
  rintro e w' ⟨rfl, rfl⟩
  go_wp2_with fail
  refine (may_nil _ _ _).mono ?_
  rintro e w' ⟨rfl, rfl⟩
  go_wp2
  go_ret
  exact ⟨rfl, rfl⟩
set_option maxHeartbeats 400000 in
theorem Store_no (w : World) (g : Nat) (S : Nat → Prop) (K N : List Nat) (L : List Pd) (h : Dev w DT g S K N L) (m : Nat) (hm : K.length = 8 * m) (hm2 : m ≤ 65536) (a : Int) (x : Nat) (ha : ¬ (0 ≤ a ∧ a < 8 * (m : Int))) :
    Calls Try.prog 13 #[.pointer (some ⟨g, 0, none⟩), .int .i64 a, .int .u64 x] w fun e w' => e = .returned (.int .i64 2) ∧ w = w' := by
  have HL := Lib.hid (Lines_any w g S K N L h m hm hm2)
  have HM := Lib.hid (may_no ⟨g, 0, none⟩ a (8 * (m : Int)) ha w)
  clear h ha hm
  go_enter Try.func13, Try.ntmps13
  go_wp2_with fail
  refine HL.out.mono ?_
  rintro e w' ⟨rfl, rfl⟩
  go_wp2_with fail
  refine HM.out.mono ?_
  rintro e w' ⟨rfl, rfl⟩
  go_wp2
  go_ret
  exact ⟨rfl, rfl⟩
set_option maxHeartbeats 2000000 in
theorem Store_yes (w : World) (g : Nat) (S : Nat → Prop) (K N : List Nat) (L : List Pd) (h : Dev w DT g S K N L) (m : Nat) (hm : K.length = 8 * m) (hmn : N.length = 8 * m) (hm2 : m ≤ 65536) (hL : L.length ≤ 65536) (a x : Nat) (ha : a < 8 * m) :
    Calls Try.prog 13 #[.pointer (some ⟨g, 0, none⟩), .int .i64 a, .int .u64 x] w fun e w' => e = .returned (.int .i64 0) ∧ Goes w w' DT g S K (N.set a x) (L ++ [⟨a, x, false⟩]) := by
  have HL := Lib.hid (Lines_any w g S K N L h m hm hm2)
  have HM := Lib.hid (may_yes ⟨g, 0, none⟩ a (8 * (m : Int)) (by omega) w)
  obtain ⟨i0, hi, hz0, hz1, hz2⟩ := info_parts infoPd
  obtain ⟨kb, nb, wb, vk, vn, vw, hd, hs⟩ := h
  obtain ⟨c0, c1, c2⟩ := hd.cell
  have hf := hd.frozen 2
  have hN := hd.setN a x
  have hlt := hd.lt
  obtain ⟨n1, n2, n3, n4, n5⟩ := hd.ne
  have hn := hd.2.2.1
  have hc := hn.cell (at_word (l := N) (k := a) (by omega))
  have hfn := hn.frozen a
  obtain ⟨c, rfl⟩ := hn.form
  generalize wd N a = y at *
  rw [hmn] at c1
  have ha1 : (a : Int) < ((8 * m : Nat) : Int) := by omega
  have HN := Lib.hid hN
  have HLt := Lib.hid hlt
  have Hs := Lib.hid hs
  have Hne := Lib.hid (show g ≠ nb from n2.symm)
  have hw := hN.2.2.2.1
  have HW := Lib.hid hw
  clear hm hmn hn hd hN hlt hs hw n1 n3 n4 n5
  go_enter Try.func13, Try.ntmps13
  go_wp2_with fail
  refine HL.out.mono ?_
  rintro e w' ⟨rfl, rfl⟩
  go_wp2_with fail
  refine HM.out.mono ?_
  rintro e w' ⟨rfl, rfl⟩
  have HN2 := Lib.hid (HN.out.below ((Below.refl _ _).alloc (Nat.le_refl _) (.cells #[.int .i64 (a : Nat), .int .u64 (x : Nat), .bool false] 61)))
  have HRn := Lib.hid (Rd.newAt (w.setCell ⟨nb, a, none⟩ (.int .u64 (x : Nat))) w.heap.size (by simp) (pend ⟨a, x, false⟩) 61 (by simp [pend]) 1 (by omega))
  go_wp2_with (at_builtin; refine wpList_append_row rfl (.tmp 27) (.tmp 31) 48 rfl 61 i0 _ 3 24 Try.underlying48 hi hz0 hz1 hz2 rfl (by decide) wb vw L.length (pends L) rfl (HW.out.alloc _) _ 1 (pend ⟨a, x, false⟩) rfl HRn.out rfl (by omega) (by rw [← pends_one]; exact pends_oneCell _) (by unfold maxLen; omega) (by omega) ?_; intro b3 c3 w3 hr3 ht3 hb3; have hcg := HN2.out.cell2 ht3; have hfg := HN2.out.frozen2 ht3; have Hr3 := Lib.hid hr3; have Ht3 := Lib.hid ht3; have HB3 := Lib.hid hb3; clear hr3 ht3 hb3)
  have hr3 := Hr3.out
  have ht3 := Ht3.out
  rw [← pends_one, ← pends_append] at hr3
  have HG := Lib.hid (HN2.out.grow ht3 (wb' := some b3) (L' := L ++ [⟨a, x, false⟩]) (by rw [List.length_append]; exact hr3))
  have HT := Lib.hid (((((Touch.refl S w).setCell ⟨nb, a, none⟩ (.inl ((Hs.out nb).2 (.inr (.inr (.inl rfl))))) (.int .u64 (x : Nat))).alloc (.cells #[.int .i64 (a : Nat), .int .u64 (x : Nat), .bool false] 61)).trans ht3 (fun b hb => .inl ((Hs.out b).2 (.inr (.inr (.inr hb)))))).setCell ⟨g, 2, none⟩ (.inl ((Hs.out g).2 (.inl rfl))) (.slice (some ⟨b3, 0, none⟩) (L.length + 1) c3))
  clear hr3 ht3
  go_ret
  refine ⟨rfl, _, ⟨kb, nb, some b3, _, _, _, HG.out, fun b => Iff.rfl⟩, HT.out, fun b hb => ?_⟩
  rcases hb with hb | hb | hb | hb
  · exact .inl ((Hs.out b).2 (.inl hb))
  · exact .inl ((Hs.out b).2 (.inr (.inl hb)))
  · exact .inl ((Hs.out b).2 (.inr (.inr (.inl hb))))
  · injection hb with hb
    subst hb
    rcases HB3.out with h3 | h3
    · exact .inl ((Hs.out b3).2 (.inr (.inr (.inr h3))))
    · right
      rw [h3]
      simp
end Go.Proofs.Ytdkcghicobakhaa
