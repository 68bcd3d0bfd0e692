/- media: Flush. -/
import Derived.Test.YtdkcghicobakhaaMediaB
import Derived.StillTailTactics
import Derived.BigQuiet
namespace Go.Proofs.Ytdkcghicobakhaa
open Go.RowKit
set_option linter.unusedVariables false

set_option maxHeartbeats 400000 in
theorem Flush_nil (a : Int) (w : World) : Calls Try.prog 16 #[.pointer none, .int .i64 a] w fun e w' => e = .returned (.int .i64 1) ∧ w = w' := by
  go_enter Try.func16, Try.ntmps16
  go_wp2_with fail
  refine (Lines_nil _).mono ?_
  rintro e w' ⟨rfl, rfl⟩
  go_wp2_with fail
  refine (may_nil _ _ _).mono ?_
  rintro e w' ⟨rfl, rfl⟩
  go_wp2
  go_ret
  exact ⟨rfl, rfl⟩
set_option maxHeartbeats 400000 in
theorem Flush_no (w : World) (g : Nat) (S : Nat → Prop) (K N : List Nat) (L : List Pd) (h : Dev w DT g S K N L) (m : Nat) (hm : K.length = 8 * m) (hm2 : m ≤ 65536) (a : Int) (ha : ¬ (0 ≤ a ∧ a < (m : Int))) :
    Calls Try.prog 16 #[.pointer (some ⟨g, 0, none⟩), .int .i64 a] w fun e w' => e = .returned (.int .i64 2) ∧ w = w' := by
  have HL := Lib.hid (Lines_any w g S K N L h m hm hm2)
  have HM := Lib.hid (may_no ⟨g, 0, none⟩ a (m : Int) ha w)
  clear h ha hm
  go_enter Try.func16, Try.ntmps16
  go_wp2_with fail
  refine HL.out.mono ?_
  rintro e w' ⟨rfl, rfl⟩
  go_wp2_with fail
  refine HM.out.mono ?_
  rintro e w' ⟨rfl, rfl⟩
  go_wp2
  go_ret
  exact ⟨rfl, rfl⟩

/-- flushed as far as j -/
def flTo (L : List Pd) (a : Int) (j : Nat) : List Pd := (L.take j).map (flushes a) ++ L.drop j
theorem flTo_length (L : List Pd) (a : Int) (j : Nat) : (flTo L a j).length = L.length := by
  unfold flTo
  rw [List.length_append, List.length_map, List.length_take, List.length_drop]
  omega
theorem flTo_at (L : List Pd) (a : Int) (j : Nat) (h : j < L.length) : (flTo L a j)[j]'(by rw [flTo_length]; exact h) = L[j] := by
  unfold flTo
  rw [List.getElem_append_right (by rw [List.length_map, List.length_take]; omega)]
  simp [Nat.min_eq_left (Nat.le_of_lt h)]
theorem flTo_set (L : List Pd) (a : Int) (j : Nat) (h : j < L.length) : (flTo L a j).set j (flushes a L[j]) = flTo L a (j + 1) := by
  unfold flTo
  have hl : ((L.take j).map (flushes a)).length = j := by rw [List.length_map, List.length_take]; omega
  rw [List.set_append_right _ _ (by omega), hl, Nat.sub_self, List.drop_eq_getElem_cons h, List.set_cons_zero, List.take_succ_eq_append_getElem h, List.map_append, List.append_assoc]
  rfl
theorem flTo_all (L : List Pd) (a : Int) : flTo L a L.length = L.map (flushes a) := by unfold flTo; simp
theorem flTo_zero (L : List Pd) (a : Int) : flTo L a 0 = L := by unfold flTo; simp

set_option maxHeartbeats 4000000 in
theorem Flush_yes (w : World) (g : Nat) (S : Nat → Prop) (K N : List Nat) (L : List Pd) (h : Dev w DT g S K N L) (m : Nat) (hm : K.length = 8 * m) (hm2 : m ≤ 65536) (hL : L.length ≤ 65536) (hP : ∀ x ∈ L, OkP (8 * m) x) (a : Int) (ha : 0 ≤ a ∧ a < (m : Int)) :
    Calls Try.prog 16 #[.pointer (some ⟨g, 0, none⟩), .int .i64 a] w fun e w' => e = .returned (.int .i64 0) ∧ Goes w w' DT g S K N (L.map (flushes a)) := by
  have HL := Lib.hid (Lines_any w g S K N L h m hm hm2)
  have HM := Lib.hid (may_yes ⟨g, 0, none⟩ a (m : Int) ha w)
  obtain ⟨kb, nb, wb, vk, vn, vw, hd, hs⟩ := h
  obtain ⟨c0, c1, c2⟩ := hd.cell
  have hw := hd.2.2.2.1
  obtain ⟨A, c, rfl⟩ := hw.form
  have HD := Lib.hid hd
  have Hs := Lib.hid hs
  have HPP := Lib.hid hP
  clear hm hd hs hw ha hP
  go_enter Try.func16, Try.ntmps16
  go_wp2_with fail
  refine HL.out.mono ?_
  rintro e w' ⟨rfl, rfl⟩
  go_wp2_with fail
  refine HM.out.mono ?_
  rintro e w' ⟨rfl, rfl⟩
  go_wp2
  go_loopw [6, 7, 20] (fun _ _ i wr => ∃ j : Nat, j ≤ L.length ∧ i = .int .i64 j ∧ DevB wr DT g kb nb wb vk vn (.slice A L.length c) K N (flTo L a j) ∧ Touch S w wr) (fun _ _ i _ => L.length - (intOf i).toNat)
  case atStart => exact ⟨0, by omega, rfl, by rw [flTo_zero]; exact HD.out, Touch.refl _ _⟩
  case round =>
    obtain ⟨j, hj, rfl, hd, ht⟩ := hrel
    clear c0 c1 c2
    by_cases hlt : j < L.length
    · have hjl : j < (flTo L a j).length := by rw [flTo_length]; exact hlt
      have hfa := flTo_at L a j hlt
      have hfs := flTo_set L a j hlt
      obtain ⟨c0, c1, c2⟩ := hd.cell
      have hr := hd.2.2.2.1
      cases wb with
      | none =>
        obtain ⟨_, h0, _⟩ := hr
        rw [flTo_length] at h0
        omega
      | some b =>
        obtain ⟨c', hv⟩ := Row.form hr
        injection hv with e1 e2 e3
        subst e1; subst e3
        clear e2
        obtain ⟨p0, p1, p2⟩ := pends_at (flTo L a j) j hjl
        have q0 := Row.cell hr p0
        have q1 := Row.cell hr p1
        have q2 := Row.cell hr p2
        have qf := Row.frozen hr (j * 3 + 2)
        rw [hfa] at q0 q1 q2
        have hset := fun f => hd.setF hjl f
        rw [hfa] at hset
        have hxp := (HPP.out _ (List.getElem_mem hlt)).1
        generalize hx : L[j] = x at *
        obtain ⟨xp, xw, xf⟩ := x
        dsimp only at q0 q1 q2 hxp
        have hxp2 : (xp : Int) / 8 ≤ 65536 := by omega
        have hj' : (j : Int) < (L.length : Int) := by omega
        have hb3 := hd.lt b (.inr (.inr (.inr rfl)))
        generalize hW : wr.alloc (.cells #[.int .i64 (xp : Nat), .int .u64 (xw : Nat), .bool xf] 61) = W2
        have hb2 : Below wr.heap.size wr W2 := by rw [← hW]; exact (Below.refl _ _).alloc (Nat.le_refl _) _
        have hn2 : W2.heap[wr.heap.size]? = some (.cells #[.int .i64 (xp : Nat), .int .u64 (xw : Nat), .bool xf] 61 (0, 0)) := by rw [← hW]; exact heap_alloc_new wr _
        have hd2 := hd.below hb2
        obtain ⟨_, _, d2⟩ := hd2.cell
        have k0 : W2.cell? ⟨wr.heap.size, 0, none⟩ = some (.int .i64 (xp : Nat)) := by rw [cell_of_row _ _ 0 _ _ _ hn2]; rfl
        have k2 : W2.cell? ⟨wr.heap.size, 2, none⟩ = some (.bool xf) := by rw [cell_of_row _ _ 2 _ _ _ hn2]; rfl
        have r2 := (hb2.cell (p := ⟨b, j * 3 + 2, none⟩) hb3).trans q2
        have rf := (hb2.frozen (p := ⟨b, j * 3 + 2, none⟩) hb3).trans qf
        have hset2 := fun f => (hd.below hb2).setF hjl f
        rw [hfa] at hset2
        have Hset := Lib.hid hset2
        have Hd := Lib.hid hd
        have Hb2 := Lib.hid hb2
        have Ht := Lib.hid ht
        have Hfs := Lib.hid hfs
        have HW := Lib.hid hW
        clear hd hd2 hb2 hn2 ht hset hset2 hr hfs hfa p0 p1 p2 hW
        cases xf with
        | true =>
          go_wp2
          rw [HW.out]
          go_still_tail 16, (by kernel_rfl)
          go_wp2
          go_roundw
          case rel => exact ⟨j + 1, by omega, by go_num, by rw [← Hfs.out]; exact Hset.out true, ((Ht.out.trans (Touch.of_below (S := S) Hb2.out) (fun b hb => .inl hb)).setCell ⟨b, j * 3 + 2, none⟩ (.inl ((Hs.out b).2 (.inr (.inr (.inr rfl))))) _).drew⟩
          case measure => simp [intOf]; omega
        | false =>
          go_wp2
          rw [HW.out]
          go_still_tail 16, (by kernel_rfl)
          go_wp2
          go_roundw
          case rel => exact ⟨j + 1, by omega, by go_num, by rw [← Hfs.out]; exact Hset.out ((xp : Int) / 8 == a), ((Ht.out.trans (Touch.of_below (S := S) Hb2.out) (fun b hb => .inl hb)).setCell ⟨b, j * 3 + 2, none⟩ (.inl ((Hs.out b).2 (.inr (.inr (.inr rfl))))) _).drew⟩
          case measure => simp [intOf]; omega
    · obtain rfl : j = L.length := by omega
      rw [flTo_all] at hd
      have HD2 := Lib.hid hd
      have HT2 := Lib.hid ht
      clear hd ht
      go_wp2
      go_ret
      exact ⟨rfl, S, ⟨kb, nb, wb, _, _, _, HD2.out, Hs.out⟩, HT2.out, fun b hb => .inl hb⟩
end Go.Proofs.Ytdkcghicobakhaa
