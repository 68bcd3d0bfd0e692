/- redo.entries. -/
import Derived.Test.YtlfnpjdnfkcigaaDoorRedoC
import Derived.Test.YtlfnpjdnfkcigaaDoorRedoF
import Derived.Deep.AppendLies
namespace Go.Proofs.YtlfnpjdnfkcigaaDoor
open Go.RowKit
set_option linter.unusedVariables false

theorem newAtR (W : World) (H : Nat) (hH : W.heap.size = H) (cs : List Value) (e : TypeId) (h : cs.length ≤ 65536) (n : Nat) (hn : n ≤ 65536) : Rd (W.alloc (.cells cs.toArray e)) (.slice (some ⟨H, 0, none⟩) n n) n cs := by
  subst hH
  exact Rd.new W cs e h n hn
def EntOut (w : World) (s : List Nat) (c : Nat) (e : Ending) (w' : World) : Prop :=
  (slotHas s c ∧ ∃ A cp, e = .returned (.tuple #[.slice A (c % 256) cp, .nilIface]) ∧ w'.ownsRow w.heap.size 45 2 (.slice A (c % 256) cp) (c % 256) (rcells (entOf s (c % 256))) ∧ Below w.heap.size w w') ∨
  (¬ slotHas s c ∧ e = .returned (.tuple #[.slice none 0 0, .iface 27 (.int .i64 7)]) ∧ Below w.heap.size w w')

set_option maxRecDepth 100000 in
set_option maxHeartbeats 8000000 in
theorem entries_any (v : Value) (s : List Nat) (w : World) (hs : s.length = 136) (hw : ∀ x ∈ s, x < 18446744073709551616) (hr : Rd w v s.length (u64s s)) (c : Nat) (hc : c = s[0]'(by omega)) :
    Calls Tryd.prog 24 #[v] w (EntOut w s c) := by
  have HR := Lib.hid hr
  have HW := Lib.hid hw
  have HS := Lib.hid hs
  obtain ⟨A, cp, rfl, h1, h2, h3⟩ := hr
  unfold maxLen at h2
  have hc64 : c < 18446744073709551616 := by rw [hc]; exact hw _ (List.getElem_mem _)
  obtain ⟨b, o, rfl, q0⟩ := HR.out.at_ (u64s_at (l := s) (k := 0) (by omega))
  rw [← hc, Nat.add_zero] at q0
  rw [hs] at HR h1 ⊢
  clear h3 hw hs hc
  obtain ⟨i0, hi, hz0, hz1, hz2⟩ := info_parts infoR
  have hand : bits BinOp.and IntKind.u64 (c : Int) 255 = ((c % 256 : Nat) : Int) := by
    have h := u64_and_nat c 255 hc64 (by decide)
    have h5 : c &&& 255 = c % 256 := Nat.and_two_pow_sub_one_eq_mod c 8
    rw [h5] at h
    exact h
  have hand2 : ((c % 256 : Nat) : Int) = (c : Int) % 256 := by omega
  by_cases hbig : 64 < c % 256
  · have hd : decide ((64 : Int) < (c : Int) % 256) = true := by simp; omega
    rw [hand2] at hand
    clear hand2
    go_enter Tryd.func24, Tryd.ntmps24
    go_wp2
    go_ret2
    exact .inr ⟨fun h => by have := h.1; omega, rfl, Below.refl _ _⟩
  have hle : c % 256 ≤ 64 := by omega
  obtain ⟨n, hn⟩ : ∃ n, n = c % 256 := ⟨_, rfl⟩
  have hd : decide ((64 : Int) < (n : Int)) = false := by simp; omega
  rw [← hn] at hand
  have hn64 : n ≤ 64 := by omega
  have Hn := Lib.hid hn
  clear hand2 hn hbig hle
  go_enter Tryd.func24, Tryd.ntmps24
  go_wp2
  go_loopw [6, 7, 8, 22] (fun t _ _ i wr => ∃ (j : Nat) (B : Option Addr) (cb : Nat), j ≤ n ∧ i = .int .i64 j ∧ t = .slice B j cb ∧ wr.ownsRow w.heap.size 45 2 (.slice B j cb) j (rcells (entOf s j)) ∧ Below w.heap.size w wr ∧ entMay s j) (fun _ _ _ i _ => n - (intOf i).toNat)
  case atStart => exact ⟨0, none, 0, by omega, rfl, rfl, World.ownsRow_nil _ _ _ _, Below.refl _ _, fun i hi => by omega⟩
  case round =>
    obtain ⟨j, B, cb, hj, rfl, rfl, hown, hb, hm⟩ := hrel
    by_cases hlt : j < n
    · have hlt' : (j : Int) < (n : Int) := by omega
      have h8 : 8 + 2 * j < s.length := by rw [HS.out]; omega
      have h9 : 9 + 2 * j < s.length := by rw [HS.out]; omega
      have hq : ∀ W : World, Below w.heap.size w W → W.cell? ⟨b, o + (8 + 2 * j), none⟩ = some (.int .u64 (s[8 + 2 * j] : Nat)) ∧ W.cell? ⟨b, o + (8 + 2 * j) + 1, none⟩ = some (.int .u64 (s[9 + 2 * j] : Nat)) := fun W hW => by
        obtain ⟨b1, o1, hA1, q1⟩ := (HR.out.below hW).at_ (u64s_at (l := s) (k := 8 + 2 * j) h8)
        injection hA1 with hA1
        injection hA1 with e1 e2
        subst e1; subst e2
        obtain ⟨b1, o1, hA1, q2⟩ := (HR.out.below hW).at_ (u64s_at (l := s) (k := 9 + 2 * j) h9)
        injection hA1 with hA1
        injection hA1 with e1 e2
        subst e1; subst e2
        rw [show o + (9 + 2 * j) = o + (8 + 2 * j) + 1 by omega] at q2
        exact ⟨q1, q2⟩
      obtain ⟨q1, q2⟩ := hq _ hb
      have hes := entOf_succ s j
      rw [show s.getD (8 + 2 * j) 0 = s[8 + 2 * j] by simp [List.getD, h8], show s.getD (9 + 2 * j) 0 = s[9 + 2 * j] by simp [List.getD, h9]] at hes
      have hmy : s.getD (8 + 2 * j) 0 = s[8 + 2 * j] := by simp [List.getD, h8]
      have hy64 := HW.out _ (List.getElem_mem h8)
      generalize s[8 + 2 * j] = y at *
      generalize s[9 + 2 * j] = z at *
      have Hes := Lib.hid hes
      have Hmy := Lib.hid hmy
      have Hm := Lib.hid hm
      have Hb := Lib.hid hb
      have HQ := Lib.hid hq
      clear h8 h9 hes hmy hm hq
      by_cases hy : 1048576 ≤ y
      · have hd2 : decide ((1048576 : Int) ≤ (y : Int)) = true := by simp; omega
        clear hb hown
        go_wp2
        go_ret2
        exact .inr ⟨fun h => by have := h.2.1 j (by rw [← Hn.out]; omega); rw [Hmy.out] at this; omega, rfl, Hb.out⟩
      · have hd2 : decide ((1048576 : Int) ≤ (y : Int)) = false := by simp; omega
        have hwy : IntKind.i64.wrap (y : Int) = (y : Int) := by rw [IntKind.wrap_i64]; omega
        have Hb0 := Lib.hid hb.drew
        have hbx : Below wr.heap.size wr (wr.drew.alloc (.cells #[.int .i64 (y : Nat), .int .u64 (z : Nat)] 45)) := ((Below.refl _ _).drew).alloc (Nat.le_refl _) _
        have HRn := Lib.hid (newAtR wr.drew wr.heap.size rfl (rcells [⟨(y : Nat), z⟩]) 45 (by simp [rcells, rcell]) 1 (by omega))
        have Hox := Lib.hid (own_below hown hbx)
        have Hbx := Lib.hid (below_then hb hbx)
        clear hb hown hbx
        have hi0 : (0 : Int) < ((136 - (8 + 2 * j) : Nat) : Int) := by omega
        have hi2 : 8 + 2 * j < 136 := by omega
        have hi3 : 0 < 136 - (8 + 2 * j) := by omega
        have hi1 : (1 : Int) < ((136 - (8 + 2 * j) : Nat) : Int) := by omega
        go_wp2
        go_region_held3 (fun w' => w'.cell? ⟨b, o + (8 + 2 * j), none⟩ = some (.int .u64 (y : Nat)) ∧ w'.cell? ⟨b, o + (8 + 2 * j) + 1, none⟩ = some (.int .u64 (z : Nat)))
          (first | assumption | exact HQ.out _ Hb0.out | exact HQ.out _ Hbx.out | exact HQ.out _ Hb2.out)
          (first | (refine step_append_rd rfl (.tmp 35) (.tmp 44) 22 rfl w.heap.size 45 i0 _ 2 16 Tryd.underlying22 hi hz0 hz1 hz2 rfl (by decide) (.slice B j cb) j (rcells (entOf s j)) (by simp [Act.eval]) Hox.out _ 1 (rcells [⟨(y : Nat), z⟩]) (by simp [Act.eval]) HRn.out rfl (rcells_oneCell _) (by unfold maxLen; omega) (by omega) Hbx.out.size ?_; intro A2 c2 w2 hown2 hg2; have Hown2 := Lib.hid hown2; have Hb2 := Lib.hid (below_grown Hbx.out Hox.out (Nat.le_refl _) Hbx.out.size hg2); clear hown2 hg2))
        go_wp2
        go_roundw
        case rel =>
          refine ⟨j + 1, A2, c2, by omega, by go_num, rfl, ?_, Hb2.out, fun i hi => ?_⟩
          · rw [Hes.out, rcells_append]; exact Hown2.out
          · rcases Nat.lt_or_ge i j with h3 | h3
            · exact Hm.out i h3
            · obtain rfl : i = j := by omega
              rw [Hmy.out]; omega
        case measure => simp [intOf]; omega
    · obtain rfl : j = n := by omega
      have hrd := Rd.of_own hown
      have hlen := entOf_length s j
      have hok : ∀ r ∈ entOf s j, OkR r := fun r hr => ⟨by have := entOf_may hm r hr; unfold mayOne at this; unfold I64r; omega, entOf_w HW.out j r hr⟩
      have hm0 := mayE_ok.2 ⟨by rw [hlen]; exact hn64, entOf_may hm⟩
      have HLay := Lib.hid (Lay_any (.slice B j cb) (entOf s j) wr (by rw [hlen]; exact hrd) hok)
      have Hm0 := Lib.hid hm0
      have Hm := Lib.hid hm
      have Hown := Lib.hid hown
      have Hb := Lib.hid hb
      clear hrd hlen hok hm0 hm hown hb
      go_wp2_with fail
      refine HLay.out.mono ?_
      rintro e w2 (⟨_, A2, c2, rfl, ho2, hb2⟩ | ⟨hbad, _⟩)
      · have Ho2 := Lib.hid (own_below Hown.out hb2)
        have Hb2 := Lib.hid (below_then Hb.out hb2)
        clear ho2 hb2
        obtain ⟨g, hg⟩ : ∃ g, g = rcommit (entOf s j) := ⟨_, rfl⟩
        rw [← hg]
        have Hg := Lib.hid hg
        clear hg
        by_cases hgc : g = c
        · subst hgc
          go_wp2
          go_ret2
          refine .inl ⟨⟨by rw [← Hn.out]; omega, by rw [← Hn.out]; exact Hm.out, by rw [← Hn.out]; exact Hg.out.symm⟩, ?_⟩
          rw [← Hn.out]
          exact ⟨_, _, rfl, Ho2.out, Hb2.out⟩
        · have hne : ((g : Int) != (c : Int)) = true := by simp; omega
          go_wp2
          go_ret2
          exact .inr ⟨fun h => hgc (by have := h.2.2; rw [← Hn.out] at this; rw [Hg.out]; exact this), rfl, Hb2.out⟩
      · exact absurd Hm0.out hbad
end Go.Proofs.YtlfnpjdnfkcigaaDoor
