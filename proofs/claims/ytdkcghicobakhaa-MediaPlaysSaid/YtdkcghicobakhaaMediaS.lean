/- parcloseref03: Load, Flush, Words, SamePends. -/
import Derived.Test.YtdkcghicobakhaaMediaR
import Derived.Test.YtdkcghicobakhaaSame
namespace Go.Proofs.Ytdkcghicobakhaa
open Go.RowKit
set_option linter.unusedVariables false

theorem getD_setP (l : List Nat) (p x a : Nat) (hp : p < l.length) : wd (l.set p x) a = if p = a then x else wd l a := by
  unfold wd
  rw [List.getD_eq_getElem?_getD, List.getElem?_set]
  by_cases h : p = a
  · rw [if_pos h, if_pos hp, if_pos h]; rfl
  · rw [if_neg h, if_neg h, List.getD_eq_getElem?_getD]
theorem apP_take (K : List Nat) (L : List Pd) (j : Nat) (h : j < L.length) : apP K (L.take (j + 1)) = (apP K (L.take j)).set L[j].p L[j].w := by
  rw [List.take_succ_eq_append_getElem h, apP_snoc]

set_option maxHeartbeats 2000000 in
theorem refLoad_any (w : World) (g : Nat) (S : Nat → Prop) (K : List Nat) (L : List Pd) (h : RDev w g S K L) (m : Nat) (hm : K.length = 8 * m) (hm2 : m ≤ 65536) (hL : L.length ≤ 65536) (hP : ∀ x ∈ L, OkP (8 * m) x) (a : Nat) (ha : a < 8 * m) :
    Calls Try.prog 23 #[.pointer (some ⟨g, 0, none⟩), .int .i64 a] w fun e w' => e = .returned (.int .u64 (wd (apP K L) a : Nat)) ∧ w = w' := by
  obtain ⟨vk, c0, hr⟩ := h.kept_rd
  obtain ⟨vw, c1, hrw⟩ := h.wait_rd
  have hka := at_word (l := K) (k := a) (by omega)
  have hrk := hr
  obtain ⟨A, c, rfl, _, _, _⟩ := hr
  obtain ⟨b, o, rfl, hck⟩ := hrk.at_ hka
  have HRw := Lib.hid hrw
  obtain ⟨B, cw, rfl, hw1, hw2, _⟩ := hrw
  unfold maxLen at hw2
  rw [hm] at c0
  have HP := Lib.hid hP
  have HM := Lib.hid hm
  have ha1 : (a : Int) < ((8 * m : Nat) : Int) := by omega
  have hz : wd K a = wd (apP K (L.take 0)) a := by rw [List.take_zero, apP_nil]
  have HZ := Lib.hid hz
  clear h hm hrk hP hka hz
  go_enter Try.func23, Try.ntmps23
  go_wp2
  go_loop [5, 6] (fun x i => ∃ j : Nat, j ≤ L.length ∧ i = .int .i64 j ∧ x = .int .u64 (wd (apP K (L.take j)) a : Nat)) (fun _ i => L.length - (intOf i).toNat)
  case atStart => exact ⟨0, by omega, rfl, by rw [HZ.out]⟩
  case round =>
    obtain ⟨j, hj, rfl, rfl⟩ := hrel
    by_cases hlt : j < L.length
    · obtain ⟨p0, p1, p2⟩ := pends_at L j hlt
      obtain ⟨b2, o2, hB, q0⟩ := HRw.out.at_ p0
      subst hB
      obtain ⟨b3, o3, hB, q1⟩ := HRw.out.at_ p1
      injection hB with hB
      injection hB with e1 e2
      subst e1; subst e2
      rw [← Nat.add_assoc] at q1
      have hst := apP_take K L j hlt
      have hxo := (HP.out _ (List.getElem_mem hlt)).1
      have hgs := getD_setP (apP K (L.take j)) L[j].p L[j].w a (by rw [apP_length, HM.out]; exact hxo)
      rw [← hst] at hgs
      have Hgs := Lib.hid hgs
      generalize L[j] = x at *
      obtain ⟨xp, xw, xf⟩ := x
      dsimp only at q0 q1 hxo Hgs
      have hlt' : (j : Int) < (L.length : Int) := by omega
      clear hst hgs p0 p1 p2
      by_cases he : xp = a
      · have hq : ((xp : Int) == (a : Int)) = true := by simp; omega
        have Hg2 := Lib.hid (Hgs.out.trans (if_pos he))
        clear he
        go_wp2
        go_round
        case rel => exact ⟨j + 1, by omega, by go_num, by rw [Hg2.out]⟩
        case measure => simp [intOf]; omega
      · have hq : ((xp : Int) == (a : Int)) = false := by simp; omega
        have Hg2 := Lib.hid (Hgs.out.trans (if_neg he))
        clear he
        go_wp2
        go_round
        case rel => exact ⟨j + 1, by omega, by go_num, by rw [Hg2.out]⟩
        case measure => simp [intOf]; omega
    · obtain rfl : j = L.length := by omega
      go_wp2
      go_ret
      exact ⟨ret_int (by first | rfl | rw [List.take_length]), rfl⟩

set_option maxHeartbeats 4000000 in
theorem refFlush_any (w : World) (g : Nat) (S : Nat → Prop) (K : List Nat) (L : List Pd) (h : RDev w g S K L) (m : Nat) (hm2 : m ≤ 65536) (hL : L.length ≤ 65536) (hP : ∀ x ∈ L, OkP (8 * m) x) (a : Int) :
    Calls Try.prog 17 #[.pointer (some ⟨g, 0, none⟩), .int .i64 a] w fun e w' => e = .returned (.tuple #[]) ∧ RGoes w w' g S K (L.map (flushes a)) := by
  obtain ⟨kb, wb, vk, vw, hd, hs⟩ := h
  obtain ⟨A, c, rfl⟩ := hd.2.2.form
  have HD := Lib.hid hd
  have Hs := Lib.hid hs
  have HPP := Lib.hid hP
  clear hd hs hP
  go_enter Try.func17, Try.ntmps17
  go_wp2
  go_loopw [4, 5] (fun i _ wr => ∃ j : Nat, j ≤ L.length ∧ i = .int .i64 j ∧ RDevB wr g kb wb vk (.slice A L.length c) K (flTo L a j) ∧ Touch S w wr) (fun i _ _ => L.length - (intOf i).toNat)
  case atStart => exact ⟨0, by omega, rfl, by rw [flTo_zero]; exact HD.out, Touch.refl _ _⟩
  case round =>
    obtain ⟨j, hj, rfl, hd, ht⟩ := hrel
    obtain ⟨c0, c1⟩ := hd.cell
    by_cases hlt : j < L.length
    · have hjl : j < (flTo L a j).length := by rw [flTo_length]; exact hlt
      have hfa := flTo_at L a j hlt
      have hfs := flTo_set L a j hlt
      have hr := hd.2.2
      cases wb with
      | none =>
        obtain ⟨_, h0, _⟩ := hr
        rw [flTo_length] at h0
        omega
      | some b =>
        obtain ⟨c', hv⟩ := Row.form hr
        injection hv with e1 e2 e3
        subst e1; subst e3
        clear e2
        obtain ⟨p0, p1, p2⟩ := pends_at (flTo L a j) j hjl
        have q0 := Row.cell hr p0
        have q1 := Row.cell hr p1
        have q2 := Row.cell hr p2
        have f0 := Row.frozen hr (j * 3)
        have f1 := Row.frozen hr (j * 3 + 1)
        have f2 := Row.frozen hr (j * 3 + 2)
        have hset := fun f => (hd.setP hjl f)
        rw [hfa] at q0 q1 q2
        have hxp := (HPP.out _ (List.getElem_mem hlt)).1
        have hb3 := hd.lt b (.inr (.inr rfl))
        have HSet := Lib.hid (fun (W : World) (hb : Below wr.heap.size wr W) f => (hd.below hb).setP hjl f)
        rw [hfa] at HSet
        generalize hx : L[j] = x at *
        obtain ⟨xp, xw, xf⟩ := x
        dsimp only at q0 q1 q2 hxp HSet
        have hj' : (j : Int) < (L.length : Int) := by omega
        have hxp2 : (xp : Int) / 8 ≤ 65536 := by omega
        have Hd := Lib.hid hd
        have Ht := Lib.hid ht
        have Hfs := Lib.hid hfs
        clear hd ht hset hr hfs hfa p0 p1 p2
        have hfin : ∀ y : Bool, y = (xf || ((xp : Int) / 8 == a)) → ∀ W2 : World, Below wr.heap.size wr W2 →
            RDevB (((W2.setCell ⟨b, j * 3, none⟩ (.int .i64 (xp : Nat))).setCell ⟨b, j * 3 + 1, none⟩ (.int .u64 (xw : Nat))).setCell ⟨b, j * 3 + 2, none⟩ (.bool y)).drew g kb (some b) vk (.slice (some ⟨b, 0, none⟩) L.length c) K (flTo L a (j + 1)) ∧
            Touch S w (((W2.setCell ⟨b, j * 3, none⟩ (.int .i64 (xp : Nat))).setCell ⟨b, j * 3 + 1, none⟩ (.int .u64 (xw : Nat))).setCell ⟨b, j * 3 + 2, none⟩ (.bool y)).drew := by
          intro y hy W2 hb2
          subst hy
          have hSb : S b := (Hs.out b).2 (.inr (.inr rfl))
          refine ⟨?_, ((((Ht.out.trans (Touch.of_below (S := S) hb2) (fun b hb => .inl hb)).setCell ⟨b, j * 3, none⟩ (.inl hSb) _).setCell ⟨b, j * 3 + 1, none⟩ (.inl hSb) _).setCell ⟨b, j * 3 + 2, none⟩ (.inl hSb) _).drew⟩
          rw [← Hfs.out]
          exact HSet.out W2 hb2 _
        have Hfin := Lib.hid hfin
        clear hfin HSet
        cases xf with
        | true =>
          go_wp2_with fail
          generalize hW : wr.alloc (.cells #[.int .i64 (xp : Nat), .int .u64 (xw : Nat), .bool true] 61) = W2
          have hb2 : Below wr.heap.size wr W2 := by rw [← hW]; exact (Below.refl _ _).alloc (Nat.le_refl _) _
          have hn2 : W2.heap[wr.heap.size]? = some (.cells #[.int .i64 (xp : Nat), .int .u64 (xw : Nat), .bool true] 61 (0, 0)) := by rw [← hW]; exact heap_alloc_new wr _
          clear hW
          have k0 : W2.cell? ⟨wr.heap.size, 0, none⟩ = some (.int .i64 (xp : Nat)) := by rw [cell_of_row _ _ 0 _ _ _ hn2]; rfl
          have k1 : W2.cell? ⟨wr.heap.size, 1, none⟩ = some (.int .u64 (xw : Nat)) := by rw [cell_of_row _ _ 1 _ _ _ hn2]; rfl
          have k2 : W2.cell? ⟨wr.heap.size, 2, none⟩ = some (.bool true) := by rw [cell_of_row _ _ 2 _ _ _ hn2]; rfl
          have d1 := (hb2.cell (p := ⟨g, 1, none⟩) (World.block_lt_of_cell? _ _ c1)).trans c1
          have r0 := (hb2.cell (p := ⟨b, j * 3, none⟩) hb3).trans q0
          have r1 := (hb2.cell (p := ⟨b, j * 3 + 1, none⟩) hb3).trans q1
          have r2 := (hb2.cell (p := ⟨b, j * 3 + 2, none⟩) hb3).trans q2
          have s0 := (hb2.frozen (p := ⟨b, j * 3, none⟩) hb3).trans f0
          have s1 := (hb2.frozen (p := ⟨b, j * 3 + 1, none⟩) hb3).trans f1
          have s2 := (hb2.frozen (p := ⟨b, j * 3 + 2, none⟩) hb3).trans f2
          have Hb2 := Lib.hid hb2
          clear hb2 hn2
          go_still_tail 7, (by kernel_rfl)
          go_wp2
          go_roundw
          case rel => exact ⟨j + 1, by omega, by go_num, (Hfin.out true rfl W2 Hb2.out).1, (Hfin.out true rfl W2 Hb2.out).2⟩
          case measure => simp [intOf]; omega
        | false =>
          go_wp2_with fail
          generalize hW : wr.alloc (.cells #[.int .i64 (xp : Nat), .int .u64 (xw : Nat), .bool ((xp : Int) / 8 == a)] 61) = W2
          have hb2 : Below wr.heap.size wr W2 := by rw [← hW]; exact (Below.refl _ _).alloc (Nat.le_refl _) _
          have hn2 : W2.heap[wr.heap.size]? = some (.cells #[.int .i64 (xp : Nat), .int .u64 (xw : Nat), .bool ((xp : Int) / 8 == a)] 61 (0, 0)) := by rw [← hW]; exact heap_alloc_new wr _
          clear hW
          generalize hyy : ((xp : Int) / 8 == a) = y at *
          have Hyy := Lib.hid hyy
          clear hyy
          have k0 : W2.cell? ⟨wr.heap.size, 0, none⟩ = some (.int .i64 (xp : Nat)) := by rw [cell_of_row _ _ 0 _ _ _ hn2]; rfl
          have k1 : W2.cell? ⟨wr.heap.size, 1, none⟩ = some (.int .u64 (xw : Nat)) := by rw [cell_of_row _ _ 1 _ _ _ hn2]; rfl
          have k2 : W2.cell? ⟨wr.heap.size, 2, none⟩ = some (.bool y) := by rw [cell_of_row _ _ 2 _ _ _ hn2]; rfl
          have d1 := (hb2.cell (p := ⟨g, 1, none⟩) (World.block_lt_of_cell? _ _ c1)).trans c1
          have r0 := (hb2.cell (p := ⟨b, j * 3, none⟩) hb3).trans q0
          have r1 := (hb2.cell (p := ⟨b, j * 3 + 1, none⟩) hb3).trans q1
          have r2 := (hb2.cell (p := ⟨b, j * 3 + 2, none⟩) hb3).trans q2
          have s0 := (hb2.frozen (p := ⟨b, j * 3, none⟩) hb3).trans f0
          have s1 := (hb2.frozen (p := ⟨b, j * 3 + 1, none⟩) hb3).trans f1
          have s2 := (hb2.frozen (p := ⟨b, j * 3 + 2, none⟩) hb3).trans f2
          have Hb2 := Lib.hid hb2
          clear hb2 hn2
          go_still_tail 7, (by kernel_rfl)
          go_wp2
          go_roundw
          case rel => exact ⟨j + 1, by omega, by go_num, (Hfin.out y rfl W2 Hb2.out).1, (Hfin.out y rfl W2 Hb2.out).2⟩
          case measure => simp [intOf]; omega
    · obtain rfl : j = L.length := by omega
      rw [flTo_all] at hd
      have HD2 := Lib.hid hd
      have HT2 := Lib.hid ht
      clear hd ht
      go_wp2
      go_end0
      exact ⟨rfl, S, ⟨kb, wb, _, _, HD2.out, Hs.out⟩, HT2.out, fun b hb => .inl hb⟩
end Go.Proofs.Ytdkcghicobakhaa
