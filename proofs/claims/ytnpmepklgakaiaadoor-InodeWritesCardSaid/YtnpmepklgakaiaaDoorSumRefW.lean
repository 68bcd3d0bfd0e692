/- parcloseref02.Words: what it answers. -/
import Derived.Test.YtnpmepklgakaiaaDoorSumWalks
import Derived.Test.YtnpmepklgakaiaaDoorRefText
import Derived.Test.YtnpmepklgakaiaaDoorSame
namespace Go.Proofs.YtnpmepklgakaiaaDoor
open Go.RowKit
set_option linter.unusedVariables false

theorem textOf_word (x : Nat) : textOf [x] 8 = wbytes x := by
  unfold textOf wbytes
  refine List.map_congr_left fun k hk => ?_
  have : k < 8 := List.mem_range.1 hk
  unfold byteOf
  rw [show k / 8 = 0 by omega, show k % 8 = k by omega]
  rfl
/-- the sum of the first k words -/
def wsumTo (l : List Nat) (k : Nat) : Nat := wsum (l.take k)
theorem wsumTo_succ {l : List Nat} {k : Nat} (h : k < l.length) : wsumTo l (k + 1) = more (wsumTo l k) (wbytes l[k]) := by
  unfold wsumTo
  rw [List.take_succ_eq_append_getElem h, wsum_eq, wsum_eq, List.flatMap_append, more_append]
  simp
theorem wsumTo_all (l : List Nat) : wsumTo l l.length = wsum l := by unfold wsumTo; rw [List.take_length]
theorem wsumTo_lt (l : List Nat) (k : Nat) : wsumTo l k < 4294967296 := wsum_lt _
theorem wsumTo_zero (l : List Nat) : wsumTo l 0 = 0 := by unfold wsumTo; rw [List.take_zero]; decide

set_option maxRecDepth 100000 in
set_option maxHeartbeats 1000000 in
theorem refWords_any (v : Value) (l : List Nat) (w : World) (h : Rd w v l.length (u64s l)) (hw : Wd l) (hl : l.length ≤ 4294967296) :
    Calls Tryd.prog 24 #[v] w fun e w' => e = .returned (.int .u32 (wsum l : Nat)) ∧ Below w.heap.size w w' := by
  have hR := h
  obtain ⟨A, c, rfl, h1, h2, h3⟩ := h
  have HR := Lib.hid hR
  have HW := Lib.hid hw
  clear h3 hR hw
  go_enter Tryd.func24, Tryd.ntmps24
  go_wp2
  go_loopw [3, 4] (fun s k wr => ∃ j : Nat, j ≤ l.length ∧ k = .int .i64 j ∧ s = .int .u32 (wsumTo l j : Nat) ∧ Below w.heap.size w wr) (fun _ k _ => l.length - (intOf k).toNat)
  case atStart => exact ⟨0, by omega, rfl, by rw [wsumTo_zero]; rfl, Below.refl _ _⟩
  case round =>
    obtain ⟨j, hj, rfl, rfl, hb⟩ := hrel
    by_cases hlt : j < l.length
    · obtain ⟨b, o, rfl, hc⟩ := (HR.out.below hb).at_ (u64s_at hlt)
      have hs := wsumTo_succ hlt
      have hy := wsumTo_lt l j
      have hx : l[j] < 18446744073709551616 := HW.out _ (List.getElem_mem hlt)
      generalize l[j] = x at *
      generalize hgy : wsumTo l j = y at *
      clear hgy
      have Hs := Lib.hid hs
      clear hs
      go_wp2_with fail
      refine (refText_yes _ [x] 8 _ (Rd.one _ _ _) (by simpa using hx) (by simp) (by simp) ).mono ?_
      rintro e w1 ⟨rfl, hb1⟩
      rw [textOf_word]
      have hbs := bs_strB (wbytes x) (wbytes_lt x)
      have hsz : (strB (wbytes x)).size ≤ maxLen := by rw [strB_size]; unfold maxLen; simp [wbytes]
      generalize strB (wbytes x) = t at *
      have Hbs := Lib.hid hbs
      have Hsz := Lib.hid hsz
      clear hbs hsz
      go_wp2_with fail
      refine (refMore_any y t hy Hsz.out _).mono ?_
      rintro e w2 ⟨rfl, rfl⟩
      rw [Hbs.out, ← Hs.out]
      go_wp2
      go_roundw
      case rel => exact ⟨j + 1, by omega, by go_num, rfl, below_then (hb.alloc hb.size _) hb1⟩
      case measure => simp [intOf]; omega
    · obtain rfl : j = l.length := by omega
      go_wp2
      go_ret
      exact ⟨ret_int (by rw [wsumTo_all]), hb⟩
end Go.Proofs.YtnpmepklgakaiaaDoor
