/- redo.Apply. -/
import Derived.Test.YtlfnpjdnfkcigaaDoorRedoD
namespace Go.Proofs.YtlfnpjdnfkcigaaDoor
open Go.RowKit
set_option linter.unusedVariables false

set_option maxRecDepth 100000 in
set_option maxHeartbeats 8000000 in
theorem Apply_any (v v' : Value) (K : List Nat) (l : List Rdo) (w : World) (hk : Rd w v K.length (u64s K)) (hK : K.length ≤ 65536) (hr : Rd w v' l.length (rcells l)) :
    Calls Tryd.prog 17 #[v, v'] w (ApplyOut w K l) := by
  have HR := Lib.hid hr
  have HKr := Lib.hid hk
  obtain ⟨A, c, rfl, h1, h2, h3⟩ := hr
  obtain ⟨Ak, ck, rfl, k1, k2, k3⟩ := hk
  unfold maxLen at h2 k2
  obtain ⟨i0, hi, hz0, hz1, hz2⟩ := info_parts info64
  clear h3 k3
  go_enter Tryd.func17, Tryd.ntmps17
  go_wp2
  go_loopw [7, 13] (fun _ i wr => ∃ j : Nat, j ≤ l.length ∧ i = .int .i64 j ∧ (∀ k (hk : k < l.length), k < j → fits K.length l[k]) ∧ Below w.heap.size w wr) (fun _ i _ => l.length - (intOf i).toNat)
  case atStart => exact ⟨0, by omega, rfl, fun k hk h => by omega, Below.refl _ _⟩
  case round =>
    obtain ⟨j, hj, rfl, hk, hb⟩ := hrel
    have HK := Lib.hid hk
    clear hk
    by_cases hlt : j < l.length
    · obtain ⟨b, o, rfl, hq⟩ := redo_cells HR.out hlt
      obtain ⟨q0, q1⟩ := hq _ hb
      have Hno := Lib.hid (fun h : ¬ fits K.length l[j] => show ¬ ∀ r ∈ l, fits K.length r from fun hh => h (hh _ (List.getElem_mem hlt)))
      have Hyes := Lib.hid (fun (h : fits K.length l[j]) k (hk : k < l.length) (h2 : k < j + 1) => show fits K.length l[k] from by
        rcases Nat.lt_or_ge k j with h3 | h3
        · exact HK.out k hk h3
        · obtain rfl : k = j := by omega
          exact h)
      clear hq
      unfold fits at Hno
      generalize l[j] = r at *
      obtain ⟨a, x⟩ := r
      dsimp only at q0 q1 Hno
      have hlt' : (j : Int) < (l.length : Int) := by omega
      have Hbx := Lib.hid (below_then hb ((Below.refl wr.heap.size wr).alloc (Nat.le_refl _) (.cells #[.int .i64 a, .int .u64 (x : Nat)] 45)))
      clear hb
      by_cases ha : a < 0
      · have hd1 : decide (a < 0) = true := by simp; omega
        have Hn := Lib.hid (Hno.out (by omega))
        go_wp2
        go_ret2
        exact .inr ⟨Hn.out, rfl, Hbx.out⟩
      · have hd1 : decide (a < 0) = false := by simp; omega
        by_cases hbg : a < (K.length : Int)
        · have hd2 : decide ((K.length : Int) ≤ a) = false := by simp; omega
          have Hy := Lib.hid (Hyes.out ⟨by show 0 ≤ a; omega, hbg⟩)
          go_wp2
          go_roundw
          case rel => exact ⟨j + 1, by omega, by go_num, Hy.out, Hbx.out⟩
          case measure => simp [intOf]; omega
        · have hd2 : decide ((K.length : Int) ≤ a) = true := by simp; omega
          have Hn := Lib.hid (Hno.out (by omega))
          go_wp2
          go_ret2
          exact .inr ⟨Hn.out, rfl, Hbx.out⟩
    · obtain rfl : j = l.length := by omega
      have Hall := Lib.hid (show ∀ r ∈ l, fits K.length r from fun r hr => by
        obtain ⟨k, hk, rfl⟩ := List.mem_iff_getElem.1 hr
        exact HK.out k hk hk)
      have Hb0 := Lib.hid hb
      clear hb
      go_wp2_with (first
        | (at_make; refine wpList_make_full _ rfl (.tmp 29) (.tmp 29) 25 rfl wr.heap.size 26 i0 _ 1 Tryd.underlying25 hi hz0 hz1 .i64 .i64 _ _ K.length rfl rfl rfl rfl (by rw [hz2]; omega) (by unfold maxLen; omega) (Nat.le_refl _) ?_; intro w1 hown1 hg1; have hb1 : Below wr.heap.size wr w1 := (Below.refl _ _).grown hg1 (Nat.le_refl _) (by intro k h; cases h); obtain ⟨w2, hrun, hown2, hb2⟩ := run_over64 3 wr.heap.size wr.heap.size K.length wr w1 _ K _ hown1 rfl (HKr.out.below (below_then Hb0.out hb1)) hb1 (Nat.le_refl _); have Hown2 := Lib.hid (own_mono hown2 Hb0.out.size); have Hb2 := Lib.hid (below_then Hb0.out hb2); have Hrun := Lib.hid hrun; have hrun2 := hrun; clear hown1 hg1 hb1 hown2 hb2 hrun))
      clear hj hlt hrun2
      generalize wr.heap.size = gg at *
      go_loopw [10, 36] (fun _ i wr2 => ∃ j : Nat, j ≤ l.length ∧ i = .int .i64 j ∧ wr2.ownsRow w.heap.size 26 1 (.slice (some ⟨gg, 0, none⟩) K.length K.length) K.length (u64s (rapply K (l.take j))) ∧ Below w.heap.size w wr2) (fun _ i _ => l.length - (intOf i).toNat)
      case atStart => exact ⟨0, by omega, rfl, Hown2.out, Hb2.out⟩
      case round =>
        obtain ⟨j, hj, rfl, hown, hb⟩ := hrel
        by_cases hlt : j < l.length
        · obtain ⟨b, o, rfl, hq⟩ := redo_cells HR.out hlt
          obtain ⟨q0, q1⟩ := hq _ hb
          have hst := rapply_take K l j hlt
          obtain ⟨f1, f2⟩ := Hall.out _ (List.getElem_mem hlt)
          have hl := rapply_length (l.take j) K
          generalize l[j] = r at *
          obtain ⟨a, x⟩ := r
          dsimp only at q0 q1 hst f1 f2
          obtain ⟨k, rfl⟩ := Int.eq_ofNat_of_zero_le f1
          rw [Int.toNat_natCast] at hst
          have hkl : k < K.length := by omega
          have hbx : Below wr.heap.size wr (wr.alloc (.cells #[.int .i64 (k : Nat), .int .u64 (x : Nat)] 45)) := (Below.refl _ _).alloc (Nat.le_refl _) _
          have hox := own_below hown hbx
          have Hbx := Lib.hid (below_then hb hbx)
          obtain ⟨g, cap, hv, hg, hglt⟩ := hox.form (by omega)
          injection hv with hA1 _ hcc1
          injection hA1 with hA1
          injection hA1 with hA1 _
          have hgg : w.heap.size ≤ gg := by rw [hA1]; exact hg
          clear hA1 hcc1 hg hglt
          have hz := hox.cellAt k (by omega)
          obtain ⟨z, hz'⟩ : ∃ z, (u64s (rapply K (l.take j)))[k]? = some z := ⟨_, u64s_at (by rw [hl]; exact hkl)⟩
          rw [hz'] at hz
          have hf := hox.frozenAt k
          have hs := (hox.stored k (.int .u64 (x : Nat))).1
          rw [show (u64s (rapply K (l.take j))).set k (.int .u64 (x : Nat)) = u64s ((rapply K (l.take j)).set k x) by simp [u64s, List.map_set], ← hst] at hs
          have Hs := Lib.hid hs
          have hlt' : (j : Int) < (l.length : Int) := by omega
          have hkl' : (k : Int) < (K.length : Int) := by omega
          clear hst hs hown hb hl hz' hq f1 f2 hbx hox
          go_wp2
          go_roundw
          case rel => exact ⟨j + 1, by omega, by go_num, Hs.out, Hbx.out.setCell hgg _⟩
          case measure => simp [intOf]; omega
        · obtain rfl : j = l.length := by omega
          rw [List.take_length] at hown
          have Hown := Lib.hid hown
          have Hb := Lib.hid hb
          clear hown hb
          go_wp2
          go_ret2
          exact .inl ⟨Hall.out, _, _, rfl, Hown.out, Hb.out⟩
end Go.Proofs.YtlfnpjdnfkcigaaDoor
