/- word.Text: the text that stands in words. -/
import Derived.Test.YtlencbjaggaabaaDoorRefText
import Derived.Test.YtlencbjaggaabaaDoorCopy
namespace Go.Proofs.YtlencbjaggaabaaDoor
open Go.RowKit
set_option linter.unusedVariables false

set_option maxHeartbeats 1000000 in
theorem Text_no (v : Value) (l : List Nat) (n : Int) (w : World) (h : Rd w v l.length (u64s l)) (hl : l.length ≤ 4294967296) (hn1 : -9223372036854775808 ≤ n) (hn2 : n ≤ 9223372036854775807) (hn : ¬ Txt l n) :
    Calls Tryd.prog 13 #[v, .int .i64 n] w fun e w' => e = .returned (.tuple #[.string ByteArray.empty, .int .i64 2]) ∧ w = w' := by
  obtain ⟨A, c, rfl, h1, h2, h3⟩ := h
  clear h3
  by_cases h0 : n < 0
  · clear hn
    go_enter Tryd.func13, Tryd.ntmps13
    go_wp2
    go_ret2
    exact ⟨rfl, rfl⟩
  · by_cases h8 : (l.length : Int) < n / 8
    · have h8' : decide ((l.length : Int) < n / 8) = true := by simpa using h8
      clear hn
      go_enter Tryd.func13, Tryd.ntmps13
      go_wp2
      go_ret2
      exact ⟨rfl, rfl⟩
    · have h8' : decide ((l.length : Int) < n / 8) = false := by simpa using h8
      have h9 : 8 * (l.length : Int) < n := by unfold Txt at hn; omega
      have h9' : decide (8 * (l.length : Int) < n) = true := by simpa using h9
      clear hn
      go_enter Tryd.func13, Tryd.ntmps13
      go_wp2
      go_ret2
      exact ⟨rfl, rfl⟩

/-- the first j bytes of a text of n bytes, noughts behind them -/
def textTo (l : List Nat) (n j : Nat) : List Nat := textOf l j ++ List.replicate (n - j) 0
theorem textTo_length {l : List Nat} {n j : Nat} (h : j ≤ n) : (textTo l n j).length = n := by
  unfold textTo; rw [List.length_append, textOf_length, List.length_replicate]; omega
theorem textTo_zero (l : List Nat) (n : Nat) : textTo l n 0 = List.replicate n 0 := by unfold textTo textOf; simp
theorem textTo_all (l : List Nat) (n : Nat) : textTo l n n = textOf l n := by unfold textTo; simp
theorem textTo_set {l : List Nat} {n j : Nat} (h : j < n) : (textTo l n j).set j (byteOf l j) = textTo l n (j + 1) := by
  unfold textTo
  rw [show n - j = (n - (j + 1)) + 1 by omega, List.replicate_succ, List.set_append_right _ _ (by rw [textOf_length]; exact Nat.le_refl _), textOf_length, Nat.sub_self, List.set_cons_zero, textOf_succ, List.append_assoc]
  rfl
theorem made8 (n : Nat) : (madeCells (Value.int .u8 0).cells (n * 1)).toList = u8s (List.replicate n 0) := by
  rw [Nat.mul_one]
  apply List.ext_getElem?
  intro i
  simp only [madeCells, Value.cells, u8s]
  by_cases h : i < n
  · simp [h, Nat.mod_one]
  · simp [h]
theorem u8s_set (l : List Nat) (k x : Nat) : (u8s l).set k (.int .u8 (x : Nat)) = u8s (l.set k x) := by simp [u8s, List.map_set]

set_option maxHeartbeats 2000000 in
theorem Text_yes (v : Value) (l : List Nat) (n : Nat) (w : World) (h : Rd w v l.length (u64s l)) (hw : ∀ x ∈ l, x < 18446744073709551616) (hl : l.length ≤ 4294967296) (hn : n ≤ 8 * l.length) :
    Calls Tryd.prog 13 #[v, .int .i64 n] w fun e w' => e = .returned (.tuple #[.string (strB (textOf l n)), .int .i64 0]) ∧ Below w.heap.size w w' := by
  have HR := Lib.hid h
  have HW := Lib.hid hw
  obtain ⟨A, c, rfl, h1, h2, h3⟩ := h
  obtain ⟨i0, hi, hz0, hz1, hz2⟩ := info_parts info8
  clear h3 hw
  have h8' : decide ((l.length : Int) < (n : Int) / 8) = false := by simp; omega
  have h9' : decide (8 * (l.length : Int) < (n : Int)) = false := by simp; omega
  go_enter Tryd.func13, Tryd.ntmps13
  go_wp2_with (first
    | (at_make; refine wpList_make_full _ rfl (.tmp 24) (.tmp 24) 49 rfl w.heap.size 5 i0 _ 1 Tryd.underlying49 hi hz0 hz1 .i64 .i64 _ _ n rfl rfl rfl rfl (by rw [hz2]; omega) (by unfold maxLen; omega) (Nat.le_refl _) ?_; intro w1 hown1 hg1; have hb1 : Below w.heap.size w w1 := (Below.refl _ _).grown hg1 (Nat.le_refl _) (by intro k h; cases h)))
  rw [made8, ← textTo_zero l n] at hown1
  go_loopw [7, 28] (fun _ k wr => ∃ j : Nat, j ≤ n ∧ k = .int .i64 j ∧ wr.ownsRow w.heap.size 5 1 (.slice (some ⟨w.heap.size, 0, none⟩) n n) n (u8s (textTo l n j)) ∧ Below w.heap.size w wr) (fun _ k _ => n - (intOf k).toNat)
  case atStart => exact ⟨0, by omega, rfl, hown1, hb1⟩
  case round =>
    obtain ⟨j, hj, rfl, hown, hb⟩ := hrel
    clear hown1 hb1 hg1
    by_cases hlt : j < n
    · have hq : j / 8 < l.length := by omega
      obtain ⟨b, o, rfl, hc⟩ := (HR.out.below hb).at_ (u64s_at hq)
      have hx : l[j / 8] < 18446744073709551616 := HW.out _ (List.getElem_mem hq)
      have hby : l[j / 8] / 2 ^ (8 * (j % 8)) % 256 = byteOf l j := by unfold byteOf; simp [List.getD, hq]
      have hbl := byteOf_lt l j
      generalize l[j / 8] = x at *
      have hcell := hown.cellAt j (by omega)
      obtain ⟨z, hz⟩ : ∃ z, (u8s (textTo l n j))[j]? = some z := ⟨_, u8s_at (by rw [textTo_length hj]; exact hlt)⟩
      rw [hz] at hcell
      have hfr := hown.frozenAt j
      have hst := (hown.stored j (.int .u8 (byteOf l j : Nat))).1
      rw [u8s_set, textTo_set hlt] at hst
      have Hst := Lib.hid hst
      have Hb := Lib.hid hb
      have Hby := Lib.hid hby
      have hq' : (j : Int) / 8 < (l.length : Int) := by omega
      have hq2 : (0 : Int) ≤ (j : Int) / 8 := by omega
      clear hst hb hown hz
      have hbi : (x : Int) / 2 ^ (8 * (j % 8)) % 256 = ((byteOf l j : Nat) : Int) := by rw [div_pow, ← Hby.out]; rfl
      have Hbi := Lib.hid hbi
      clear hbi
      go_wp2
      rw [Hbi.out]
      go_roundw
      case rel => exact ⟨j + 1, by omega, by go_num, Hst.out, Hb.out.setCell (Nat.le_refl _) _⟩
      case measure => simp [intOf]; omega
    · obtain rfl : j = n := by omega
      rw [textTo_all] at hown
      have hconv := run_text (P := Tryd.prog) (w := wr) 49 9 5 Tryd.underlying49 Tryd.underlying5 Tryd.underlying9 (textOf l j) (by rw [textOf_length]; exact Rd.of_own hown)
      have Hown := Lib.hid hown
      clear hown
      go_wp2
      go_ret2
      exact ⟨rfl, hb⟩
end Go.Proofs.YtlencbjaggaabaaDoor
