/- parcloseref16.Read. -/
import Derived.Test.YtlfnpjdnfkcigaaDoorRedoH
namespace Go.Proofs.YtlfnpjdnfkcigaaDoor
open Go.RowKit
set_option linter.unusedVariables false

def SlotBad (s : List Nat) : Prop := s.length ≠ 136 ∨ (s.length = 136 ∧ s.getD 0 0 ≠ 0 ∧ ¬ slotHas s (s.getD 0 0))
def SlotNone (s : List Nat) : Prop := s.length = 136 ∧ s.getD 0 0 = 0
def SlotList (s : List Nat) : Prop := s.length = 136 ∧ s.getD 0 0 ≠ 0 ∧ slotHas s (s.getD 0 0)
/-- what parcloseref16.Read answers -/
def RefReadOut (w : World) (s : List Nat) (e : Ending) (w' : World) : Prop :=
  (SlotBad s ∧ e = .returned (.tuple #[.slice none 0 0, .bool false, .agg #[.int .i64 0, .int .i64 7]]) ∧ Below w.heap.size w w') ∨
  (SlotNone s ∧ e = .returned (.tuple #[.slice none 0 0, .bool false, .agg #[.int .i64 0, .int .i64 0]]) ∧ Below w.heap.size w w') ∨
  (SlotList s ∧ ∃ A cp, e = .returned (.tuple #[.slice A (s.getD 0 0 % 256) cp, .bool true, .agg #[.int .i64 0, .int .i64 0]]) ∧ w'.ownsRow w.heap.size 45 2 (.slice A (s.getD 0 0 % 256) cp) (s.getD 0 0 % 256) (rcells (entOf s (s.getD 0 0 % 256))) ∧ Below w.heap.size w w')
/-- a Fault's box -/
def FB (w : World) (H : Nat) (a k : Int) : Prop := w.heap[H]? = some (.cells #[.int .i64 a, .int .i64 k] 52 (0, 0))
theorem FB.cells {w : World} {H : Nat} {a k : Int} (h : FB w H a k) : w.cell? ⟨H, 0, none⟩ = some (.int .i64 a) ∧ w.cell? ⟨H, 1, none⟩ = some (.int .i64 k) ∧ w.frozen? ⟨H, 0, none⟩ = false ∧ w.frozen? ⟨H, 1, none⟩ = false := by
  unfold FB at h
  refine ⟨?_, ?_, ?_, ?_⟩ <;> simp [World.cell?, World.frozen?, h]
theorem FB.below {w w' : World} {H : Nat} {a k : Int} (h : FB w H a k) (hb : Below w.heap.size w w') : FB w' H a k := (hb.block H (Array.getElem?_eq_some_iff.1 h).1).trans h
/-- the two boxes of the call -/
structure TwoF (w wr : World) (a : Int) (k : Int) : Prop where
  r : FB wr w.heap.size 0 0
  b : FB wr (w.heap.size + 1) 0 7
  bel : Below w.heap.size w wr
theorem TwoF.new (w : World) : TwoF w ((w.alloc (.cells #[.int .i64 0, .int .i64 0] 52)).alloc (.cells #[.int .i64 0, .int .i64 7] 52)) 0 0 := by
  refine ⟨?_, ?_, ((Below.refl _ _).alloc (Nat.le_refl _) _).alloc (by simp) _⟩
  · unfold FB
    rw [heap_alloc_old _ _ (by simp)]; exact heap_alloc_new w _
  · have := heap_alloc_new (w.alloc (.cells #[.int .i64 0, .int .i64 0] 52)) (.cells #[.int .i64 0, .int .i64 7] 52)
    simpa [FB] using this
theorem TwoF.below {w wr wr' : World} {a k : Int} (h : TwoF w wr a k) (hb : Below wr.heap.size wr wr') : TwoF w wr' a k := ⟨h.r.below hb, h.b.below hb, below_then h.bel hb⟩
theorem TwoF.lt {w wr : World} {a k : Int} (h : TwoF w wr a k) : w.heap.size + 1 < wr.heap.size := (Array.getElem?_eq_some_iff.1 h.b).1

set_option maxRecDepth 100000 in
set_option maxHeartbeats 8000000 in
theorem refRead_any (v : Value) (s : List Nat) (w : World) (hw : ∀ x ∈ s, x < 18446744073709551616) (hr : Rd w v s.length (u64s s)) :
    Calls Tryd.prog 23 #[v] w (RefReadOut w s) := by
  have HR := Lib.hid hr
  have HW := Lib.hid hw
  have HT := Lib.hid (TwoF.new w)
  obtain ⟨A, cp, rfl, h1, h2, h3⟩ := hr
  unfold maxLen at h2
  clear h3 hw
  by_cases hs : s.length = 136
  case neg =>
    have hd : ((s.length : Int) != 136) = true := by simp; omega
    have Hs := Lib.hid hs
    clear hs
    go_enter Tryd.func23, Tryd.ntmps23
    go_wp2
    go_region
    go_wp2
    refine bodyPost_ret (v := .tuple #[.slice none 0 0, .bool false, .agg #[.int .i64 0, .int .i64 7]]) (by unfold results; go_simp) rfl ?_
    refine .inl ⟨.inl Hs.out, rfl, ?_⟩
    exact (((Below.refl _ _).alloc (Nat.le_refl _) _).alloc (by simp) _).drew
  have h0 : 0 < s.length := by omega
  obtain ⟨b, o, rfl, q0⟩ := HR.out.at_ (u64s_at (l := s) (k := 0) h0)
  rw [Nat.add_zero] at q0
  have hblk : b < w.heap.size := World.block_lt_of_cell? _ _ q0
  have hgd : s.getD 0 0 = s[0] := by simp [List.getD, h0]
  have hc64 : s[0] < 18446744073709551616 := HW.out _ (List.getElem_mem _)
  have hq0 : ∀ W : World, Below w.heap.size w W → W.cell? ⟨b, o, none⟩ = some (.int .u64 (s[0] : Nat)) := fun W hW => (hW.cell (World.block_lt_of_cell? _ _ q0)).trans q0
  generalize hc : s[0] = c at *
  have Hgd := Lib.hid hgd
  have Hs := Lib.hid hs
  have HQ := Lib.hid hq0
  rw [hs]
  rw [hs] at HR
  clear hc hgd h1 hq0
  by_cases hz : c = 0
  · subst hz
    clear hs h0
    go_enter Tryd.func23, Tryd.ntmps23
    go_wp2
    refine bodyPost_ret (v := .tuple #[.slice none 0 0, .bool false, .agg #[.int .i64 0, .int .i64 0]]) (by unfold results; go_simp) rfl ?_
    refine .inr (.inl ⟨⟨Hs.out, Hgd.out⟩, rfl, ?_⟩)
    exact HT.out.bel
  have hne : ((c : Int) == 0) = false := by simp; omega
  have hcm : ((c % 256 : Nat) : Int) = (c : Int) % 256 := by omega
  have Hz := Lib.hid hz
  clear hs h0 hz
  by_cases hbig : 64 < c % 256
  · have hd : decide ((64 : Int) < (c : Int) % 256) = true := by simp; omega
    clear hcm
    go_enter Tryd.func23, Tryd.ntmps23
    go_wp2
    go_region
    go_wp2
    refine bodyPost_ret (v := .tuple #[.slice none 0 0, .bool false, .agg #[.int .i64 0, .int .i64 7]]) (by unfold results; go_simp) rfl ?_
    refine .inl ⟨.inr ⟨Hs.out, by rw [Hgd.out]; exact Hz.out, fun h => ?_⟩, rfl, ?_⟩
    · have := h.1
      rw [Hgd.out] at this
      omega
    · exact (((Below.refl _ _).alloc (Nat.le_refl _) _).alloc (by simp) _).drew
  have hle : c % 256 ≤ 64 := by omega
  obtain ⟨n, hn⟩ : ∃ n, n = c % 256 := ⟨_, rfl⟩
  have hd : decide ((64 : Int) < (n : Int)) = false := by simp; omega
  have hcn : (c : Int) % 256 = (n : Int) := by omega
  have hn64 : n ≤ 64 := by omega
  have Hn := Lib.hid hn
  obtain ⟨i0, hi, hz0, hz1, hz2⟩ := info_parts infoR
  clear hcm hn hbig hle
  go_enter Tryd.func23, Tryd.ntmps23
  go_wp2
  clear hcn
  go_loopw [7, 8, 9] (fun t i _ wr => ∃ (j : Nat) (B : Option Addr) (cb : Nat), j ≤ n ∧ i = .int .i64 j ∧ t = .slice B j cb ∧ wr.ownsRow (w.heap.size + 2) 45 2 (.slice B j cb) j (rcells (entOf s j)) ∧ TwoF w wr 0 0 ∧ entMay s j) (fun _ i _ _ => n - (intOf i).toNat)
  case atStart => exact ⟨0, none, 0, by omega, rfl, rfl, World.ownsRow_nil _ _ _ _, HT.out, fun i hi => by omega⟩
  case round =>
    obtain ⟨j, B, cb, hj, rfl, rfl, hown, htw, hm⟩ := hrel
    have hbw := htw.bel
    by_cases hlt : j < n
    · have hlt' : (j : Int) < (n : Int) := by omega
      have h8 : 8 + 2 * j < s.length := by rw [Hs.out]; omega
      have h9 : 9 + 2 * j < s.length := by rw [Hs.out]; omega
      have hq : ∀ W : World, Below w.heap.size w W → W.cell? ⟨b, o + (8 + 2 * j), none⟩ = some (.int .u64 (s[8 + 2 * j] : Nat)) ∧ W.cell? ⟨b, o + (8 + 2 * j) + 1, none⟩ = some (.int .u64 (s[9 + 2 * j] : Nat)) := fun W hW => by
        obtain ⟨b1, o1, hA1, q1⟩ := (HR.out.below hW).at_ (u64s_at (l := s) (k := 8 + 2 * j) h8)
        injection hA1 with hA1
        injection hA1 with e1 e2
        subst e1; subst e2
        obtain ⟨b1, o1, hA1, q2⟩ := (HR.out.below hW).at_ (u64s_at (l := s) (k := 9 + 2 * j) h9)
        injection hA1 with hA1
        injection hA1 with e1 e2
        subst e1; subst e2
        rw [show o + (9 + 2 * j) = o + (8 + 2 * j) + 1 by omega] at q2
        exact ⟨q1, q2⟩
      obtain ⟨q1, q2⟩ := hq _ hbw
      have hes := entOf_succ s j
      rw [show s.getD (8 + 2 * j) 0 = s[8 + 2 * j] by simp [List.getD, h8], show s.getD (9 + 2 * j) 0 = s[9 + 2 * j] by simp [List.getD, h9]] at hes
      have hmy : s.getD (8 + 2 * j) 0 = s[8 + 2 * j] := by simp [List.getD, h8]
      have hy64 := HW.out _ (List.getElem_mem h8)
      generalize s[8 + 2 * j] = y at *
      generalize s[9 + 2 * j] = z at *
      have Hes := Lib.hid hes
      have Hmy := Lib.hid hmy
      have Hm := Lib.hid hm
      have Htw := Lib.hid htw
      obtain ⟨g0, g1, f0, f1⟩ := htw.b.cells
      obtain ⟨g2, g3, f2, f3⟩ := htw.r.cells
      have hsz := htw.lt
      have q3 := q2
      rw [Nat.add_assoc] at q3
      have hi2 : 8 + 2 * j < 136 := by omega
      have hi3 : 8 + 2 * j + 1 < 136 := by omega
      have hi2' : (8 : Int) + 2 * (j : Int) < 136 := by omega
      have hi3' : (8 : Int) + 2 * (j : Int) + 1 < 136 := by omega
      clear h8 h9 hes hmy hm hq htw hbw
      by_cases hy : 1048576 ≤ y
      · have hd2 : decide ((1048576 : Int) ≤ (y : Int)) = true := by simp; omega
        clear hown
        go_wp2
        go_region
        go_wp2
        refine bodyPost_ret (v := .tuple #[.slice none 0 0, .bool false, .agg #[.int .i64 0, .int .i64 7]]) (by unfold results; go_simp) rfl ?_
        refine .inl ⟨.inr ⟨Hs.out, by rw [Hgd.out]; exact Hz.out, fun h => ?_⟩, rfl, ?_⟩
        · have := h.2.1 j (by rw [Hgd.out, ← Hn.out]; omega)
          rw [Hmy.out] at this
          omega
        · exact ((Htw.out.bel.setCell (p := ⟨w.heap.size, 0, none⟩) (Nat.le_refl _) _).setCell (p := ⟨w.heap.size, 1, none⟩) (Nat.le_refl _) _).drew
      · have hd2 : decide ((1048576 : Int) ≤ (y : Int)) = false := by simp; omega
        have hwy : IntKind.i64.wrap (y : Int) = (y : Int) := by rw [IntKind.wrap_i64]; omega
        have hbx : Below wr.heap.size wr (wr.alloc (.cells #[.int .i64 (y : Nat), .int .u64 (z : Nat)] 45)) := (Below.refl _ _).alloc (Nat.le_refl _) _
        have HRn := Lib.hid (newAtR wr wr.heap.size rfl (rcells [⟨(y : Nat), z⟩]) 45 (by simp [rcells, rcell]) 1 (by omega))
        have Hox := Lib.hid (own_below hown hbx)
        have Htx := Lib.hid (Htw.out.below hbx)
        have hszx : w.heap.size + 2 ≤ (wr.alloc (.cells #[.int .i64 (y : Nat), .int .u64 (z : Nat)] 45)).heap.size := by simp; omega
        have Hszx := Lib.hid hszx
        clear hown hbx hszx
        go_wp2_with (at_builtin; refine wpList_append_rd rfl (.tmp 42) (.tmp 53) 22 rfl (w.heap.size + 2) 45 i0 _ 2 16 Tryd.underlying22 hi hz0 hz1 hz2 rfl (by decide) (.slice B j cb) j (rcells (entOf s j)) rfl Hox.out _ 1 (rcells [⟨(y : Nat), z⟩]) rfl HRn.out rfl (rcells_oneCell _) (by unfold maxLen; omega) (by omega) Hszx.out ?_; intro A2 c2 w2 hown2 hg2; have Hown2 := Lib.hid hown2; have hb2 := below_grown (Below.refl (w.heap.size + 2) _) Hox.out (Nat.le_refl _) Hszx.out hg2; have Hb2 := Lib.hid hb2; clear hown2 hg2 hb2)
        go_roundw
        case rel =>
          refine ⟨j + 1, A2, c2, by omega, by go_num, rfl, ?_, ⟨?_, ?_, ?_⟩, fun i hi => ?_⟩
          · rw [Hes.out, rcells_append]; exact Hown2.out
          · exact (Hb2.out.block _ (by omega)).trans Htx.out.r
          · exact (Hb2.out.block _ (by omega)).trans Htx.out.b
          · exact Htx.out.bel.trans (Hb2.out.mono (by omega))
          · rcases Nat.lt_or_ge i j with h3 | h3
            · exact Hm.out i h3
            · obtain rfl : i = j := by omega
              rw [Hmy.out]; omega
        case measure => simp [intOf]; omega
    · obtain rfl : j = n := by omega
      have hlen := entOf_length s j
      have hok : ∀ r ∈ entOf s j, mayOne r ∧ r.w < 18446744073709551616 := fun r hr => ⟨entOf_may hm r hr, entOf_w HW.out j r hr⟩
      have hcom : ∀ W : World, Below wr.heap.size wr W → Calls Tryd.prog 14 #[.slice B j cb] W fun e w' => e = .returned (.int .u64 (rcommit (entOf s j) : Nat)) ∧ Below W.heap.size W w' := fun W hW =>
        refCommit_any (.slice B j cb) (entOf s j) W (by rw [hlen]; exact (Rd.of_own hown).below hW) hok (by rw [hlen]; exact hn64)
      have HCom := Lib.hid hcom
      have Hm := Lib.hid hm
      have Hown := Lib.hid hown
      have Htw := Lib.hid htw
      have q1 := HQ.out _ hbw
      have hblk2 : b < wr.heap.size := Nat.lt_of_lt_of_le hblk hbw.size
      clear hcom hlen hok hm hown htw hbw
      obtain ⟨g, hg⟩ : ∃ g, g = rcommit (entOf s j) := ⟨_, rfl⟩
      rw [← hg] at HCom
      have Hg := Lib.hid hg
      clear hg
      go_wp2
      go_region_held3 (fun w' => w'.cell? ⟨b, o, none⟩ = some (.int .u64 (c : Nat)))
        (first | go_keep | (rw [hb1.cell (by simpa using hblk2)]; assumption))
        (first | (go_at_call 14; refine (HCom.out _ (by first | exact (Below.refl _ _).drew | exact Below.refl _ _ | exact below_drewN (Below.refl _ _) _)).mono ?_; rintro e w1 ⟨rfl, hb1⟩))
      have hb1' : Below wr.heap.size wr w1 := (Below.refl _ wr).drew.trans hb1
      have Htw1 := Lib.hid (Htw.out.below hb1')
      have Hown1 := Lib.hid (own_below Hown.out hb1')
      obtain ⟨g0, g1, f0, f1⟩ := Htw1.out.b.cells
      obtain ⟨g2, g3, f2, f3⟩ := Htw1.out.r.cells
      have hsz := Htw1.out.lt
      clear hb1 hb1'
      by_cases hgc : g = c
      · subst hgc
        go_wp2
        refine bodyPost_ret (v := .tuple #[.slice B j cb, .bool true, .agg #[.int .i64 0, .int .i64 0]]) (by unfold results; go_simp) rfl ?_
        refine .inr (.inr ⟨⟨Hs.out, by rw [Hgd.out]; exact Hz.out, ?_⟩, ?_⟩)
        · rw [Hgd.out]
          exact ⟨by rw [← Hn.out]; omega, by rw [← Hn.out]; exact Hm.out, by rw [← Hn.out]; exact Hg.out.symm⟩
        · rw [Hgd.out, ← Hn.out]
          refine ⟨B, cb, rfl, ?_, ?_⟩
          · exact own_mono (ownsRow_setCell_below (ownsRow_setCell_below Hown1.out (a := ⟨w.heap.size, 0, none⟩) (by show w.heap.size < _; omega) _) (a := ⟨w.heap.size, 1, none⟩) (by show w.heap.size < _; omega) _) (by omega)
          · exact (Htw1.out.bel.setCell (p := ⟨w.heap.size, 0, none⟩) (Nat.le_refl _) _).setCell (p := ⟨w.heap.size, 1, none⟩) (Nat.le_refl _) _
      · have hne2 : ((g : Int) != (c : Int)) = true := by simp; omega
        go_wp2
        go_region
        go_wp2
        refine bodyPost_ret (v := .tuple #[.slice none 0 0, .bool false, .agg #[.int .i64 0, .int .i64 7]]) (by unfold results; go_simp) rfl ?_
        refine .inl ⟨.inr ⟨Hs.out, by rw [Hgd.out]; exact Hz.out, fun h => ?_⟩, rfl, ?_⟩
        · refine hgc ?_
          have := h.2.2
          rw [Hgd.out, ← Hn.out] at this
          rw [Hg.out]; exact this
        · exact ((Htw1.out.bel.setCell (p := ⟨w.heap.size, 0, none⟩) (Nat.le_refl _) _).setCell (p := ⟨w.heap.size, 1, none⟩) (Nat.le_refl _) _).drew
end Go.Proofs.YtlfnpjdnfkcigaaDoor
