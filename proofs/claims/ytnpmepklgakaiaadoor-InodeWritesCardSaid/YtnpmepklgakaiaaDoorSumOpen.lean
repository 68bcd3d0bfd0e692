/- sum.seal, Seal, Open: what they return. -/
import Derived.Test.YtnpmepklgakaiaaDoorSumWords
import Derived.Test.YtnpmepklgakaiaaDoorSumRef
import Derived.Deep.RegionHeld3
import Derived.Deep.QuietTactic
import Derived.BigQuiet
namespace Go.Proofs.YtnpmepklgakaiaaDoor
open Go.RowKit
set_option linter.unusedVariables false

set_option maxHeartbeats 1000000 in
theorem seal_any (v : Value) (l : List Nat) (w : World) (h : Rd w v l.length (u64s l)) (hw : Wd l) (hl : l.length ≤ 65536) :
    Calls Tryd.prog 30 #[v] w fun e w' => e = .returned (.int .u64 (sealW l : Nat)) ∧ Below w.heap.size w w' := by
  have hsum := wsum_lt l
  have hn := not_u32 (wsum l) hsum
  rw [← full_sub _ hsum] at hn
  have hsl : sealW l = wsum l + 2 ^ 32 * (full - wsum l) := rfl
  have HR := Lib.hid h
  have HW := Lib.hid hw
  clear h hw
  go_enter Tryd.func30, Tryd.ntmps30
  go_wp2_with fail
  refine (Words_any _ l _ HR.out HW.out hl).mono ?_
  rintro e w1 ⟨rfl, hb1⟩
  generalize hgs : wsum l = s at *
  have Hsl := Lib.hid hsl
  clear hsl hgs
  have hff : full - s < 4294967296 := by unfold full; omega
  generalize hgt : full - s = t at *
  have Ht := Lib.hid hgt
  clear hgt
  have hsg : IntKind.u32.signed = false := rfl
  go_wp2
  go_ret
  refine ⟨ret_int ?_, hb1⟩
  have h1 := u64_or_nat (t * 4294967296) s (by omega) (by omega)
  have h1' : bits BinOp.or IntKind.u64 ((t : Int) * 4294967296) (s : Int) = ((t * 4294967296 ||| s : Nat) : Int) := by
    rw [← h1, Int.natCast_mul]; rfl
  rw [h1', Hsl.out]
  have h2 := Nat.two_pow_add_eq_or_of_lt hsum t
  have h3 : 2 ^ 32 * t = t * 4294967296 := by omega
  rw [h3] at h2
  rw [← h2]
  omega

set_option maxHeartbeats 1000000 in
theorem Seal_any (v : Value) (l : List Nat) (w : World) (h : Rd w v l.length (u64s l)) (hw : Wd l) (hl : l.length ≤ 65536) :
    Calls Tryd.prog 17 #[v] w (Hands w 44 1 (l.length + 1) (u64s (sealed l))) := by
  have HR := Lib.hid h
  have HW := Lib.hid hw
  clear h hw
  obtain ⟨i0, hi, hz0, hz1, hz2⟩ := info_parts info64
  go_enter Tryd.func17, Tryd.ntmps17
  go_wp2_with fail
  refine (clone_any _ l _ HR.out (by omega)).mono ?_
  rintro e w1 ⟨A1, c1, rfl, hown1, hb1⟩
  have Hown1 := Lib.hid hown1
  clear hown1
  go_wp2_with fail
  refine (seal_any _ l _ (HR.out.below hb1) HW.out hl).mono ?_
  rintro e w2 ⟨rfl, hb2⟩
  go_wp2_with (at_builtin
               refine wpList_append_rd rfl (.tmp 4) (.tmp 7) _ rfl w.heap.size 44 i0 _ 1 8 Tryd.underlying28 hi hz0 hz1 hz2 rfl (by decide) (.slice A1 l.length c1) l.length (u64s l) rfl ((own_below Hown1.out hb2).alloc _) _ 1 [.int .u64 (sealW l : Nat)] rfl (Rd.one _ _ _) rfl (by simp [Value.oneCell']) (by unfold maxLen; omega) (by omega) (by have := hb1.size; have := hb2.size; simp; omega) ?_
               intro A2 c2 w3 hown2 hg2)
  go_ret
  refine ⟨A2, c2, rfl, ?_, ?_⟩
  · rw [u64s_sealed]
    exact hown2
  · refine (below_then (below_then hb1 hb2) ((Below.refl _ _).alloc (Nat.le_refl _) _)).grown hg2 ?_ (fun k hk => ?_)
    · have := hb1.size; have := hb2.size; simp; omega
    · exact (Hown1.out.lt k hk).1

set_option maxHeartbeats 1000000 in
theorem Open_any (v : Value) (l : List Nat) (w : World) (h : Rd w v l.length (u64s l)) (hw : Wd l) (hl : l.length ≤ 65536) :
    Calls Tryd.prog 25 #[v] w (HandsOpen w l) := by
  by_cases hne : l = []
  · subst hne
    obtain ⟨A, c, rfl, h1, h2, h3⟩ := h
    clear h3
    go_enter Tryd.func25, Tryd.ntmps25
    go_wp2
    go_quiet (fail)
    go_wp2
    go_ret2
    unfold HandsOpen
    rw [if_neg (by rw [opens_nil]; decide)]
    exact ⟨rfl, below_drewN (Below.refl _ _) _⟩
  have hR := h
  obtain ⟨m, hm⟩ : ∃ m, l.length = m + 1 := ⟨l.length - 1, by have := List.length_pos_iff.2 hne; omega⟩
  have hdl : l.dropLast.length = m := by rw [List.length_dropLast, hm]; omega
  obtain ⟨A, c, rfl, h1, h2, h3⟩ := h
  obtain ⟨b, o, rfl, hc0⟩ := h3 0 _ (u64s_at (by omega))
  clear hc0
  have HR := Lib.hid hR
  have hRt : Rd w (.slice (some ⟨b, o, none⟩) m c) m (u64s l.dropLast) := by
    have := hR.take rfl (show l.length - 1 ≤ l.length by omega)
    rw [u64s_take, ← List.dropLast_eq_take] at this
    rwa [show l.length - 1 = m by omega] at this
  have hc : w.cell? ⟨b, o + m, none⟩ = some (.int .u64 (l.getLastD 0 : Nat)) := by
    obtain ⟨b', o', hA, hc⟩ := hR.at_ (j := m) (u64s_at (by omega))
    injection hA with hA
    injection hA with e1 e2
    subst e1; subst e2
    rw [hc]
    have : l.getLastD 0 = l[m] := by
      rw [List.getLastD_eq_getLast?, List.getLast?_eq_getElem?, List.getElem?_eq_getElem (by omega)]
      simp [hm]
    rw [this]
  have hop : opens l = decide (sealW l.dropLast = l.getLastD 0) := by
    unfold opens
    have : l.isEmpty = false := by simpa using hne
    rw [this]
    simp
    rfl
  generalize hgl : l.getLastD 0 = z at *
  have hseal : ∀ W, Below w.heap.size w W → Calls Tryd.prog 30 #[.slice (some ⟨b, o, none⟩) m c] W fun e w' => e = .returned (.int .u64 (sealW l.dropLast : Nat)) ∧ Below W.heap.size W w' := fun W hW =>
    seal_any _ l.dropLast W (by rw [hdl]; exact hRt.below hW) (dropLast_wd hw) (by rw [hdl]; omega)
  have hclone : ∀ W, Below w.heap.size w W → Calls Tryd.prog 29 #[.slice (some ⟨b, o, none⟩) m c] W (Hands W 44 1 m (u64s l.dropLast)) := fun W hW => by
    have := clone_any _ l.dropLast W (by rw [hdl]; exact hRt.below hW) (by rw [hdl]; omega)
    rwa [hdl] at this
  have Hseal := Lib.hid hseal
  have Hclone := Lib.hid hclone
  have Hop := Lib.hid hop
  have Hm := Lib.hid hm
  have hblk := World.block_lt_of_cell? w _ hc
  have hmb : m ≤ 65536 := by omega
  rw [hm] at h1 ⊢
  generalize sealW l.dropLast = y at *
  clear hseal hclone hop hm hdl hgl hRt HR hR h3 hw hl hne
  have hm0 : (0 : Int) ≤ (m : Int) := by omega
  have hm1 : (m : Int) < (m : Int) + 1 := by omega
  have hm2 : decide ((m : Int) < 0) = false := by simp
  have hm3 : (m : Int) ≤ (c : Int) := by omega
  go_enter Tryd.func25, Tryd.ntmps25
  go_wp2
  go_region_held3 (fun w' => w'.cell? ⟨b, o + m, none⟩ = some (.int .u64 (z : Nat)))
    (first | go_keep | (rw [hb1.cell (by simpa using hblk)]; assumption))
    (first | (go_at_call 30; refine (Hseal.out _ (by first | exact (Below.refl _ _).drew | exact Below.refl _ _ | exact below_drewN (Below.refl _ _) _)).mono ?_; rintro e w1 ⟨rfl, hb1⟩))
  have hb1' : Below w.heap.size w w1 := (Below.refl _ w).drew.trans hb1
  clear hb1
  by_cases hyz : y = z
  · have hq : ((y : Int) != (z : Int)) = false := by simp; omega
    have Hyz := Lib.hid hyz
    clear hyz
    go_wp2_with (first | (go_at_call 29; refine (Hclone.out _ hb1').mono ?_; rintro e w2 ⟨A2, c2, rfl, hown2, hb2⟩))
    go_ret2
    unfold HandsOpen
    rw [if_pos (by rw [Hop.out]; simpa using Hyz.out), Hm.out]
    exact ⟨A2, c2, rfl, own_mono hown2 hb1'.size, below_then hb1' hb2⟩
  · have hq : ((y : Int) != (z : Int)) = true := by simp; omega
    have Hyz := Lib.hid hyz
    clear hyz
    go_wp2
    go_ret2
    unfold HandsOpen
    rw [if_neg (by rw [Hop.out]; simpa using Hyz.out)]
    exact ⟨rfl, hb1'⟩

/-! ### the same, the length by a letter -/
theorem Seal_n (v : Value) (l : List Nat) (n : Nat) (hn : l.length = n) (w : World) (h : Rd w v n (u64s l)) (hw : Wd l) (hl : n ≤ 65536) :
    Calls Tryd.prog 17 #[v] w (Hands w 44 1 (n + 1) (u64s (sealed l))) := by subst hn; exact Seal_any v l w h hw hl
theorem Open_yes (v : Value) (l : List Nat) (n : Nat) (hn : l.length = n) (w : World) (h : Rd w v (n + 1) (u64s (sealed l))) (hw : Wd l) (hl : n < 65536) :
    Calls Tryd.prog 25 #[v] w fun r w' => ∃ A c, r = .returned (.tuple #[.slice A n c, .bool true]) ∧ w'.ownsRow w.heap.size 44 1 (.slice A n c) n (u64s l) ∧ Below w.heap.size w w' := by
  subst hn
  refine (Open_any v (sealed l) w (by rw [sealed_len]; exact h) (sealed_wd hw) (by rw [sealed_len]; omega)).mono fun e w' hh => ?_
  have h1 := HandsOpen.yes hh (opens_sealed _)
  rw [dropLast_sealed, sealed_len, Nat.add_sub_cancel] at h1
  exact h1
theorem Open_no (v : Value) (l : List Nat) (n : Nat) (hn : l.length = n) (ho : opens l = false) (w : World) (h : Rd w v n (u64s l)) (hw : Wd l) (hl : n ≤ 65536) :
    Calls Tryd.prog 25 #[v] w fun r w' => r = .returned (.tuple #[.slice none 0 0, .bool false]) ∧ Below w.heap.size w w' := by
  subst hn
  exact (Open_any v l w h hw hl).mono fun e w' hh => HandsOpen.no hh (by rw [ho]; decide)
end Go.Proofs.YtnpmepklgakaiaaDoor
