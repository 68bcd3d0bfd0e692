/- super.read: the plain answer; its closure; what it answers. -/
import Derived.Test.YtfmjhmgpnlmkkaaDoorSuperC
import Derived.Test.YtfmjhmgpnlmkkaaDoorGeomBlk
import Derived.Deep.RegionHeld3
import Derived.Deep.RegionWith
import Derived.BigRegion
namespace Go.Proofs.YtfmjhmgpnlmkkaaDoor
open Go.RowKit
set_option linter.unusedVariables false

def fP (s : List Nat) : Nat := getW (s.getD 1 0) 0 16
def fI (s : List Nat) : Nat := getW (s.getD 1 0) 16 16
def fB (s : List Nat) : Nat := getW (s.getD 1 0) 32 16
def fH (s : List Nat) : Nat := getW (s.getD 1 0) 48 16
def tailBad (s : List Nat) : Int := if s.getD 2 0 ≠ 0 then 2 else if s.getD 3 0 ≠ 0 then 3 else if s.getD 4 0 ≠ 0 then 4 else if s.getD 5 0 ≠ 0 then 5 else if s.getD 6 0 ≠ 0 then 6 else -1
instance (P I B : Int) : Decidable (MayG P I B) := by unfold MayG; infer_instance
/-- the first word at which words are no superblock; -1: they are one -/
def decAt (s : List Nat) : Int :=
  if ¬ (s.length = 8 ∧ s.getD 0 0 = magicW) then 0 else if opens s = false then 7 else if ¬ (MayG (fP s : Nat) (fI s : Nat) (fB s : Nat) ∧ fH s ≤ 1) then 1 else tailBad s
theorem tail_at {s : List Nat} {j : Nat} (h2 : 2 ≤ j) (h7 : j < 7) (h : ∀ k, 2 ≤ k → k < j → s.getD k 0 = 0) (hj : s.getD j 0 ≠ 0) : tailBad s = j := by
  unfold tailBad
  rcases (show j = 2 ∨ j = 3 ∨ j = 4 ∨ j = 5 ∨ j = 6 by omega) with rfl | rfl | rfl | rfl | rfl
  · rw [if_pos hj]; rfl
  · rw [if_neg (by rw [h 2 (by omega) (by omega)]; simp), if_pos hj]; rfl
  · rw [if_neg (by rw [h 2 (by omega) (by omega)]; simp), if_neg (by rw [h 3 (by omega) (by omega)]; simp), if_pos hj]; rfl
  · rw [if_neg (by rw [h 2 (by omega) (by omega)]; simp), if_neg (by rw [h 3 (by omega) (by omega)]; simp), if_neg (by rw [h 4 (by omega) (by omega)]; simp), if_pos hj]; rfl
  · rw [if_neg (by rw [h 2 (by omega) (by omega)]; simp), if_neg (by rw [h 3 (by omega) (by omega)]; simp), if_neg (by rw [h 4 (by omega) (by omega)]; simp), if_neg (by rw [h 5 (by omega) (by omega)]; simp), if_pos hj]; rfl
theorem tail_none {s : List Nat} (h : ∀ k, 2 ≤ k → k < 7 → s.getD k 0 = 0) : tailBad s = -1 := by
  unfold tailBad
  rw [if_neg (by rw [h 2 (by omega) (by omega)]; simp), if_neg (by rw [h 3 (by omega) (by omega)]; simp), if_neg (by rw [h 4 (by omega) (by omega)]; simp), if_neg (by rw [h 5 (by omega) (by omega)]; simp), if_neg (by rw [h 6 (by omega) (by omega)]; simp)]
theorem getW_16 (x a : Nat) : getW x a 16 < 65536 := Nat.mod_lt _ (by decide)

theorem wrong_any (a : Int) (w : World) : Calls Tryd.prog 36 #[.int .i64 a] w fun e w' => e = .returned (.iface 53 (.agg #[.int .i64 a, .int .i64 7])) ∧ w = w' := by
  go_enter Tryd.func36, Tryd.ntmps36
  go_wp2
  go_ret
  exact ⟨rfl, rfl⟩
theorem form_any (a : Int) (w : World) : Calls Tryd.prog 32 #[.int .i64 a] w fun e w' => e = .returned (.agg #[.int .i64 a, .int .i64 7]) ∧ Below w.heap.size w w' := by
  go_enter Tryd.func32, Tryd.ntmps32
  go_wp2
  refine bodyPost_ret (v := .agg #[.int .i64 a, .int .i64 7]) (by unfold results; go_simp) rfl ?_
  exact ⟨rfl, (Below.refl _ _).alloc (Nat.le_refl _) _⟩
theorem field_any (a n : Nat) (hn : 1 ≤ n) (hn2 : n ≤ 16) (h : a + n ≤ 64) (x : Nat) (hx : x < 18446744073709551616) (bx b o len c : Nat) (w : World) (hbox : w.cell? ⟨bx, 0, none⟩ = some (.slice (some ⟨b, o, none⟩) len c)) (h1 : w.cell? ⟨b, o + 1, none⟩ = some (.int .u64 (x : Nat))) (hlen : 1 < len) :
    Calls Tryd.prog 38 #[.int .i64 (a : Nat), .int .i64 (n : Nat), .pointer (some ⟨bx, 0, none⟩)] w fun e w' => e = .returned (.int .i64 (getW x a n : Nat)) ∧ w = w' := by
  have HG := Lib.hid (fun W => Get_yes x (a : Nat) (n : Nat) hx (by unfold Fld; omega) W)
  have hlt : getW x a n < 65536 := Nat.lt_of_lt_of_le (Nat.mod_lt _ (Nat.two_pow_pos n)) (Nat.pow_le_pow_right (n := 2) (by decide) hn2)
  rw [Int.toNat_natCast, Int.toNat_natCast] at HG
  generalize getW x a n = y at *
  have hw : IntKind.i64.wrap (y : Int) = (y : Int) := by rw [IntKind.wrap_i64]; omega
  have hlen' : (1 : Int) < (len : Int) := by omega
  go_enter Tryd.func38, Tryd.ntmps38
  go_wp2_with fail
  refine (HG.out _).mono ?_
  rintro e w' ⟨rfl, rfl⟩
  go_wp2
  go_ret
  exact ⟨rfl, rfl⟩
/-- what super.read answers -/
def ReadSup (w : World) (s : List Nat) (e : Ending) (w' : World) : Prop :=
  (decAt s = -1 ∧ e = .returned (.tuple #[gv (fP s : Nat) (fI s : Nat) (fB s : Nat), .bool (decide (fH s = 1)), .nilIface]) ∧ Below w.heap.size w w') ∨
  (decAt s ≠ -1 ∧ (∃ p i b : Int, e = .returned (.tuple #[gv p i b, .bool false, .iface 53 (.agg #[.int .i64 (decAt s), .int .i64 7])])) ∧ Below w.heap.size w w')
theorem dec_len {s : List Nat} (h : s.length ≠ 8) : decAt s = 0 := by unfold decAt; rw [if_pos (fun hh => h hh.1)]
theorem dec_magic {s : List Nat} (h : s.getD 0 0 ≠ magicW) : decAt s = 0 := by unfold decAt; rw [if_pos (fun hh => h hh.2)]
theorem dec_open {s : List Nat} (h : s.length = 8) (h0 : s.getD 0 0 = magicW) (ho : opens s = false) : decAt s = 7 := by unfold decAt; rw [if_neg (fun hh => hh ⟨h, h0⟩), if_pos ho]
theorem dec_word {s : List Nat} (h : s.length = 8) (h0 : s.getD 0 0 = magicW) (ho : opens s = true) (hg : ¬ (MayG (fP s : Nat) (fI s : Nat) (fB s : Nat) ∧ fH s ≤ 1)) : decAt s = 1 := by
  unfold decAt; rw [if_neg (fun hh => hh ⟨h, h0⟩), if_neg (by rw [ho]; decide), if_pos hg]
theorem dec_tail {s : List Nat} (h : s.length = 8) (h0 : s.getD 0 0 = magicW) (ho : opens s = true) (hg : MayG (fP s : Nat) (fI s : Nat) (fB s : Nat) ∧ fH s ≤ 1) : decAt s = tailBad s := by
  unfold decAt; rw [if_neg (fun hh => hh ⟨h, h0⟩), if_neg (by rw [ho]; decide), if_neg (fun hh => hh hg)]
end Go.Proofs.YtfmjhmgpnlmkkaaDoor
