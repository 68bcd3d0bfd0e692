/- super.Encode. -/
import Derived.Test.YtfmjhmgpnlmkkaaDoorSuperB
import Derived.Test.YtfmjhmgpnlmkkaaDoorWordPack
import Derived.Test.YtfmjhmgpnlmkkaaDoorSumOpen
import Derived.Lib.AppendZerosOnto
namespace Go.Proofs.YtfmjhmgpnlmkkaaDoor
open Go.RowKit
set_option linter.unusedVariables false

/-- the first word of a superblock -/
def magicW : Nat := 7310309131468038512
def word1 (P I B : Nat) (high : Bool) : Nat := P + 65536 * I + 4294967296 * B + if high then 281474976710656 else 0
def superL (P I B : Nat) (high : Bool) : List Nat := [magicW, word1 P I B high, 0, 0, 0, 0, 0]
theorem packed_magic : packed (bs ⟨#[112, 97, 114, 99, 108, 111, 115, 101]⟩) = [magicW] := by decide +kernel
theorem PackM_any (w : World) :
    Calls Tryd.prog 16 #[.string ⟨#[112, 97, 114, 99, 108, 111, 115, 101]⟩] w fun e w' => e = .returned (.slice (some ⟨w.heap.size, 0, none⟩) 1 1) ∧ w'.ownsRow w.heap.size 42 1 (.slice (some ⟨w.heap.size, 0, none⟩) 1 1) 1 (u64s [magicW]) ∧ Below w.heap.size w w' := by
  have h := Pack_full ⟨#[112, 97, 114, 99, 108, 111, 115, 101]⟩ w (by decide)
  rw [packed_magic] at h
  exact h
theorem refPackM_any (w : World) :
    Calls Tryd.prog 22 #[.string ⟨#[112, 97, 114, 99, 108, 111, 115, 101]⟩] w fun e w' => ∃ g c, e = .returned (.slice (some ⟨g, 0, none⟩) 1 c) ∧ w.heap.size ≤ g ∧ w'.cell? ⟨g, 0, none⟩ = some (.int .u64 (magicW : Nat)) ∧ Below w.heap.size w w' := by
  have h := refPack_any ⟨#[112, 97, 114, 99, 108, 111, 115, 101]⟩ w (by decide)
  rw [packed_magic] at h
  refine h.mono ?_
  rintro e w' ⟨A, c, rfl, ho, hb⟩
  obtain ⟨g, cap, hv, hg, hlt⟩ := World.ownsRow.form (n := 1) ho (by omega)
  injection hv with hA _ hc
  subst hA
  exact ⟨g, c, rfl, hg, ho.cellAt 0 (by decide), hb⟩
theorem zeros64 (k : Nat) : (Builtin.zeroCells (Value.int .u64 0).cells k).toList = u64s (List.replicate k 0) := by
  apply List.ext_getElem?
  intro i
  simp only [Builtin.zeroCells, Value.cells, u64s]
  by_cases h : i < k
  · simp [h, Nat.mod_one]
  · simp [h]
/-- 'append(row, make([]uint64, k)...)', the row full -/
theorem run_append_zeros64 (ty : TypeId) (w : World) (base g n k : Nat) (l : List Nat) (hl : l.length = n) (hown : w.ownsRow base 42 1 (.slice (some ⟨g, 0, none⟩) n n) n (u64s l)) (h0 : 0 < k) (hb : n + k ≤ 65536) (hbase : base ≤ w.heap.size) :
    ∃ c w', (Builtin.append_ #[24, 3] ty #[.slice (some ⟨g, 0, none⟩) n n, .int .i64 (k : Nat)]).run Tryd.prog w = .ok (.slice (some ⟨w.heap.size, 0, none⟩) (n + k) c) w' ∧ w'.ownsRow base 42 1 (.slice (some ⟨w.heap.size, 0, none⟩) (n + k) c) (n + k) (u64s (l ++ List.replicate k 0)) ∧ Below w.heap.size w w' := by
  obtain ⟨i0, hi, hz0, hz1, hz2⟩ := info_parts info64
  have hfc := run_firstCells_some (P := Tryd.prog) (w := w.drew) i0.size n ⟨g, 0, none⟩ n n (u64s l) (by rw [u64s_length, hl, hz1, Nat.mul_one]) (fun j v hv => by
    have hj : j < n := by have := (List.getElem?_eq_some_iff.1 hv).1; rw [u64s_length, hl] at this; exact this
    have := hown.cellAt j (by omega)
    rw [Addr.add_lit, Nat.zero_add]
    exact this.trans hv)
  have hrun := Lib.run_append_grow_zeros (P := Tryd.prog) w 24 3 ty 42 i0 (.int .u64 0) .i64 .i64 Tryd.underlying24 Tryd.underlying3 hi hz0 (some ⟨g, 0, none⟩) n n (u64s l) hfc k h0 (by rw [hz1]; decide) (by omega) (by omega) (by rw [hz2]; omega) (growslice_fits (by omega) (by rw [hz2]; omega))
  have hge := grownCap_ge w (n + k) n 42
  have hcm : grownCap w (n + k) n 42 ≤ maxLen := grownCap_le_maxLen w (n + k) n 42 (by unfold maxLen; omega)
  refine ⟨_, _, hrun, ⟨?_, .inr ⟨w.heap.size, _, _, rfl, hbase, heap_alloc_new w.drew _, hge, hcm, ?_, ?_⟩⟩, ((Below.refl _ _).drew.alloc (Nat.le_refl _) _)⟩
  · rw [u64s_length]; simp [hl]
  · simp only [Array.size_append, List.size_toArray, size_zeroCells, u64s_length, hl, Value.cells]
    simp
    omega
  · simp only [Array.toList_append, zeros64]
    rw [u64s_append, Nat.mul_one, List.take_append_of_le_length (by simp [u64s_length, hl])]
    exact List.take_of_length_le (by simp [u64s_length, hl])
theorem put3_val {P I B : Nat} (hP : P < 65536) (hI : I < 65536) (hB : B < 65536) : put3 0 P I B = word1 P I B false := by
  have e1 : putW 0 0 16 P = P := by rw [putW_small (by decide)]; omega
  have e2 : putW P 16 16 I = P + 65536 * I := by rw [putW_small (by omega)]; omega
  have e3 : putW (P + 65536 * I) 32 16 B = P + 65536 * I + 4294967296 * B := by rw [putW_small (by omega)]; omega
  unfold put3 word1
  rw [e1, e2, e3]
  simp
theorem put4_val {P I B : Nat} (hP : P < 65536) (hI : I < 65536) (hB : B < 65536) : putW (word1 P I B false) 48 1 1 = word1 P I B true := by
  have h : word1 P I B false < 2 ^ 48 := by unfold word1; simp; omega
  rw [putW_small h]
  unfold word1
  simp
theorem word1_lt {P I B : Nat} (hP : P < 65536) (hI : I < 65536) (hB : B < 65536) (high : Bool) : word1 P I B high < 18446744073709551616 := by
  unfold word1; split <;> omega
theorem superL_wd {P I B : Nat} (hP : P < 65536) (hI : I < 65536) (hB : B < 65536) (high : Bool) : Wd (superL P I B high) := by
  have := word1_lt hP hI hB high
  intro x hx
  simp only [superL, List.mem_cons, List.mem_nil_iff, or_false, magicW] at hx
  omega
end Go.Proofs.YtfmjhmgpnlmkkaaDoor
