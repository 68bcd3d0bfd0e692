/- parcloseref01.Text: the text that stands in words. -/
import Derived.Test.YtnpmepklgakaiaaDoorTypes
import Derived.Test.YtnpmepklgakaiaaDoorRefGet
import Derived.Maps.AppendAt
namespace Go.Proofs.YtnpmepklgakaiaaDoor
open Go.RowKit
set_option linter.unusedVariables false

/-- the k-th byte of a row of words -/
def byteOf (l : List Nat) (k : Nat) : Nat := l.getD (k / 8) 0 / 2 ^ (8 * (k % 8)) % 256
def textOf (l : List Nat) (n : Nat) : List Nat := (List.range n).map (byteOf l)
theorem byteOf_lt (l : List Nat) (k : Nat) : byteOf l k < 256 := Nat.mod_lt _ (by decide)
theorem textOf_lt (l : List Nat) (n : Nat) : ∀ b ∈ textOf l n, b < 256 := by
  intro b hb
  obtain ⟨k, _, rfl⟩ := List.mem_map.1 hb
  exact byteOf_lt l k
theorem textOf_length (l : List Nat) (n : Nat) : (textOf l n).length = n := by simp [textOf]
theorem textOf_succ (l : List Nat) (k : Nat) : textOf l (k + 1) = textOf l k ++ [byteOf l k] := by simp [textOf, List.range_succ]
/-- is there such a text? -/
def Txt (l : List Nat) (n : Int) : Prop := 0 ≤ n ∧ n ≤ 8 * l.length

set_option maxHeartbeats 1000000 in
theorem refText_no (v : Value) (l : List Nat) (n : Int) (w : World) (h : Rd w v l.length (u64s l)) (hl : l.length ≤ 4294967296) (hn1 : -9223372036854775808 ≤ n) (hn2 : n ≤ 9223372036854775807) (hn : ¬ Txt l n) :
    Calls Tryd.prog 37 #[v, .int .i64 n] w fun e w' => e = .returned (.tuple #[.string ByteArray.empty, .int .i64 2]) ∧ w = w' := by
  obtain ⟨A, c, rfl, h1, h2, h3⟩ := h
  clear h3
  by_cases h0 : n < 0
  · clear hn
    go_enter Tryd.func37, Tryd.ntmps37
    go_wp2
    go_ret2
    exact ⟨rfl, rfl⟩
  · have h4 : 0 < n := by unfold Txt at hn; omega
    have h5 : (l.length : Int) ≤ (n - 1) / 8 := by unfold Txt at hn; omega
    have h6 : decide ((l.length : Int) ≤ (n - 1) / 8) = true := by simp; omega
    clear hn
    go_enter Tryd.func37, Tryd.ntmps37
    go_wp2
    go_ret2
    exact ⟨rfl, rfl⟩

set_option maxRecDepth 100000 in
set_option maxHeartbeats 2000000 in
theorem refText_yes (v : Value) (l : List Nat) (n : Nat) (w : World) (h : Rd w v l.length (u64s l)) (hw : ∀ x ∈ l, x < 18446744073709551616) (hl : l.length ≤ 4294967296) (hn : n ≤ 8 * l.length) :
    Calls Tryd.prog 37 #[v, .int .i64 n] w fun e w' => e = .returned (.tuple #[.string (strB (textOf l n)), .int .i64 0]) ∧ Below w.heap.size w w' := by
  have hR := h
  obtain ⟨A, c, rfl, h1, h2, h3⟩ := h
  obtain ⟨i0, hi, hz0, hz1, hz2⟩ := info_parts info8
  have HR := Lib.hid hR
  have HW := Lib.hid hw
  clear h3 hR hw
  have hg : n ≤ 0 ∨ (0 < n ∧ decide ((l.length : Int) ≤ ((n : Int) - 1) / 8) = false) := by
    rcases Nat.eq_zero_or_pos n with h | h
    · exact .inl (by omega)
    · exact .inr ⟨h, by simp; omega⟩
  rcases hg with hn0 | ⟨hn0, hd⟩
  · go_enter Tryd.func37, Tryd.ntmps37
    go_wp2
    go_loop [6, 7] (fun b k => b = .slice none 0 0 ∧ k = .int .i64 0) (fun _ k => 0)
    case atStart => exact ⟨rfl, rfl⟩
    case round =>
      obtain ⟨rfl, rfl⟩ := hrel
      obtain rfl : n = 0 := by omega
      have hconv := run_text (P := Tryd.prog) (w := w) 98 9 5 Tryd.underlying98 Tryd.underlying5 Tryd.underlying9 [] (Rd.nil w)
      go_wp2
      go_ret2
      exact ⟨rfl, Below.refl _ _⟩
  · go_enter Tryd.func37, Tryd.ntmps37
    go_wp2
    go_loopw [6, 7] (fun b k wr => ∃ j : Nat, j ≤ n ∧ k = .int .i64 j ∧ (∃ B cb, b = .slice B j cb ∧ wr.ownsRow w.heap.size 5 1 (.slice B j cb) j (u8s (textOf l j))) ∧ Below w.heap.size w wr) (fun _ k _ => n - (intOf k).toNat)
    case atStart => exact ⟨0, by omega, rfl, ⟨none, 0, rfl, World.ownsRow_nil _ _ _ _⟩, Below.refl _ _⟩
    case round =>
      obtain ⟨j, hj, rfl, ⟨B, cb, rfl, hown⟩, hb⟩ := hrel
      by_cases hlt : j < n
      · have hq : j / 8 < l.length := by omega
        obtain ⟨b, o, rfl, hc⟩ := (HR.out.below hb).at_ (u64s_at hq)
        have hx : l[j / 8] < 18446744073709551616 := HW.out _ (List.getElem_mem hq)
        have hby : l[j / 8] / 2 ^ (8 * (j % 8)) % 2 ^ 8 = byteOf l j := by unfold byteOf; simp [List.getD, hq]
        have hv := byteOf_lt l j
        generalize l[j / 8] = x at *
        have Hby := Lib.hid hby
        have Hown := Lib.hid hown
        have hlt' : (j : Int) / 8 < (l.length : Int) := by omega
        clear hby hown
        go_wp2_with fail
        refine (refGet_yes x _ _ hx (by unfold Fld; omega) _).mono ?_
        rintro e w' ⟨rfl, rfl⟩
        rw [show (8 * ((j : Int) % 8)).toNat = 8 * (j % 8) by omega, show (8 : Int).toNat = 8 by rfl, Hby.out]
        go_wp2_with (at_builtin; refine wpList_append_rd rfl (.tmp 41) (.tmp 44) _ rfl w.heap.size 5 i0 _ 1 1 Tryd.underlying98 hi hz0 hz1 hz2 rfl (by decide) (.slice B j cb) j (u8s (textOf l j)) rfl (Hown.out.alloc _) _ 1 [.int .u8 (byteOf l j : Nat)] rfl (Rd.one _ _ _) rfl (by simp [Value.oneCell']) (by unfold maxLen; omega) (by omega) (by have := hb.size; simp; omega) ?_; intro A1 c1 w1 hown1 hg1)
        go_roundw
        case rel =>
          refine ⟨j + 1, by omega, by go_num, ⟨A1, c1, rfl, ?_⟩, ?_⟩
          · rw [textOf_succ, u8s_append]; exact hown1
          · refine (hb.alloc hb.size _).grown hg1 (by have := hb.size; simp; omega) (fun k hk => ?_)
            exact (Hown.out.lt k hk).1
        case measure => simp [intOf]; omega
      · obtain rfl : j = n := by omega
        have hconv := run_text (P := Tryd.prog) (w := wr) 98 9 5 Tryd.underlying98 Tryd.underlying5 Tryd.underlying9 (textOf l j) (by rw [textOf_length]; exact Rd.of_own hown)
        have Hown := Lib.hid hown
        clear hown
        go_wp2
        go_ret2
        exact ⟨rfl, hb⟩
end Go.Proofs.YtnpmepklgakaiaaDoor
